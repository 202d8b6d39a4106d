/- The code of some functions, as the machine of values has it: printed by vm.py out of the program; each is the program's own (t_..: by the kernel). -/
import Derived.Test.YtijidndhlgbjhaaDoorBaseC
import Derived.Test.YtijidndhlgbjhaaDoorProg
import Derived.KernelRfl
namespace Go.Proofs.YtijidndhlgbjhaaDoor
variable [Globs]
set_option linter.unusedSectionVars false
set_option linter.unusedVariables false
set_option linter.defProp false
set_option maxRecDepth 100000

/-! gitlike/diff.Lines -/
def c_diff_Lines_A1 : VCode := .ops [⟨some 4, .p (.mov (.t 7)), none⟩] [3, 4]
def c_diff_Lines_F2 : VCode := .block 1 (.ops [⟨some 8, .p (.load false 1 (.t 3)), none⟩,
    ⟨some 9, .p (.mov (.t 4)), none⟩,
    ⟨some 10, .p (.b2s (.t 9)), none⟩,
    ⟨some 11, .s (.bslice 1 1 (.val (.string (str []))) [⟨0, .t 10⟩]), none⟩,
    ⟨some 12, .s (.app 1 16 9 (.t 8) (.t 11)), none⟩,
    ⟨none, .s (.store 1 (.t 3) (.t 12)), none⟩] [])
def c_diff_Lines_k3 : VCode := .seq (.ops [⟨some 13, .p (.load false 1 (.t 3)), none⟩,
    ⟨some 2, .p (.mov (.t 13)), none⟩] [2])
  (.ret)
def c_diff_Lines : VCode := .seq (.ops [⟨some 2, .p (.mov (.c (.slice none 0 0))), none⟩] [0, 2])
  (.seq (.ops [⟨some 3, .s (.alloc (.val (.slice none 0 0))), none⟩] [0, 2, 3])
  (.seq (.seq (.ops [⟨some 5, .p (.mov (.t 0)), none⟩,
    ⟨some 6, .s (.call 175 [.t 5]), none⟩] [2, 3, 6])
  (.block 0 (.ownB 3 [] 1 (.rfunc (.t 6) [7] c_diff_Lines_A1 c_diff_Lines_F2))))
  c_diff_Lines_k3))
def r_diff_Lines : List VR := [.tmp 2]
theorem t_diff_Lines : Tryd.f112.body.bind (trC Tryd.prog Tryd.f112.ntmps) = some (er c_diff_Lines) := by kernel_rfl
theorem w_diff_Lines : trR Tryd.prog Tryd.f112.results.toList = some r_diff_Lines := by kernel_rfl
theorem u_diff_Lines_A1_e {P : Program} {Q : VEx → Env → List Ob → Prop} {e : Env} {H : List Ob} : vwp P c_diff_Lines_A1 Q e H = vwp P (.ops [⟨some 4, .p (.mov (.t 7)), none⟩] [3, 4]) Q e H := by_refl rfl
theorem u_diff_Lines_F2_e {P : Program} {Q : VEx → Env → List Ob → Prop} {e : Env} {H : List Ob} : vwp P c_diff_Lines_F2 Q e H = vwp P (.block 1 (.ops [⟨some 8, .p (.load false 1 (.t 3)), none⟩,
    ⟨some 9, .p (.mov (.t 4)), none⟩,
    ⟨some 10, .p (.b2s (.t 9)), none⟩,
    ⟨some 11, .s (.bslice 1 1 (.val (.string (str []))) [⟨0, .t 10⟩]), none⟩,
    ⟨some 12, .s (.app 1 16 9 (.t 8) (.t 11)), none⟩,
    ⟨none, .s (.store 1 (.t 3) (.t 12)), none⟩] [])) Q e H := by_refl rfl
theorem u_diff_Lines_k3_e {P : Program} {Q : VEx → Env → List Ob → Prop} {e : Env} {H : List Ob} : vwp P c_diff_Lines_k3 Q e H = vwp P (.seq (.ops [⟨some 13, .p (.load false 1 (.t 3)), none⟩,
    ⟨some 2, .p (.mov (.t 13)), none⟩] [2])
  (.ret)) Q e H := by_refl rfl
theorem u_diff_Lines_e {P : Program} {Q : VEx → Env → List Ob → Prop} {e : Env} {H : List Ob} : vwp P c_diff_Lines Q e H = vwp P (.seq (.ops [⟨some 2, .p (.mov (.c (.slice none 0 0))), none⟩] [0, 2])
  (.seq (.ops [⟨some 3, .s (.alloc (.val (.slice none 0 0))), none⟩] [0, 2, 3])
  (.seq (.seq (.ops [⟨some 5, .p (.mov (.t 0)), none⟩,
    ⟨some 6, .s (.call 175 [.t 5]), none⟩] [2, 3, 6])
  (.block 0 (.ownB 3 [] 1 (.rfunc (.t 6) [7] c_diff_Lines_A1 c_diff_Lines_F2))))
  c_diff_Lines_k3))) Q e H := by_refl rfl
theorem u_diff_Lines_r {K : TV → Prop} {e : Env} {H : List Ob} : res r_diff_Lines e H K = res [.tmp 2] e H K := by_refl rfl
def u_diff_Lines := (And.intro (And.intro (And.intro @u_diff_Lines_A1_e @u_diff_Lines_F2_e) (And.intro @u_diff_Lines_k3_e @u_diff_Lines_e)) @u_diff_Lines_r)
theorem go_diff_Lines {args : List TV} {H : List Ob} {R : TV → List Ob → Prop} (hn : args.length ≤ 14) (h : vwp Tryd.prog c_diff_Lines (atEnd r_diff_Lines R) (argsE 0 args) H) : VCalls Tryd.prog 112 args H R := vcalls_of Tryd.func112 t_diff_Lines w_diff_Lines hn h

/-! gitlike/diff.Edits -/
def c_diff_Edits_L1 : VCode := .seq (.seq (.draw 15 [⟨some 18, .p (.mov (.t 5)), none⟩,
    ⟨some 19, .p (.lenV (.t 18)), none⟩,
    ⟨some 20, .p (.bin 3 .gtr (.t 19) (.c (.int .i64 ((0 : Nat) : Int)))), none⟩,
    ⟨some 21, .p (.mov (.t 20)), none⟩,
    ⟨some 22, .p (.mov (.t 6)), some ⟨21, true⟩⟩,
    ⟨some 23, .p (.lenV (.t 22)), some ⟨21, true⟩⟩,
    ⟨some 24, .p (.bin 3 .gtr (.t 23) (.c (.int .i64 ((0 : Nat) : Int)))), some ⟨21, true⟩⟩,
    ⟨some 25, .p (.pick (.t 21) (.t 24) (.c (.bool false))), none⟩,
    ⟨some 26, .p (.mov (.t 25)), none⟩,
    ⟨some 27, .p (.mov (.t 5)), some ⟨26, true⟩⟩,
    ⟨some 28, .p (.idxA 1 (.t 27) (.c (.int .i64 ((0 : Nat) : Int)))), some ⟨26, true⟩⟩,
    ⟨some 29, .p (.load false 1 (.t 28)), some ⟨26, true⟩⟩,
    ⟨some 30, .p (.mov (.t 6)), some ⟨26, true⟩⟩,
    ⟨some 31, .p (.idxA 1 (.t 30) (.c (.int .i64 ((0 : Nat) : Int)))), some ⟨26, true⟩⟩,
    ⟨some 32, .p (.load false 1 (.t 31)), some ⟨26, true⟩⟩,
    ⟨some 33, .p (.bin 9 .eql (.t 29) (.t 32)), some ⟨26, true⟩⟩,
    ⟨some 34, .p (.pick (.t 26) (.t 33) (.c (.bool false))), none⟩] [0, 1, 5, 6, 7, 8, 34])
  (.cond (.t 34)
  (.skip)
  (.exit 0)))
  (.block 1 (.seq (.ops [⟨some 35, .p (.mov (.t 8)), none⟩,
    ⟨some 36, .p (.mov (.t 5)), none⟩,
    ⟨some 37, .p (.idxA 1 (.t 36) (.c (.int .i64 ((0 : Nat) : Int)))), none⟩,
    ⟨some 38, .p (.load false 1 (.t 37)), none⟩,
    ⟨some 39, .s (.callv (.t 35) [.c (.int .i64 ((0 : Nat) : Int)), .t 38]), none⟩] [0, 1, 5, 6, 7, 8])
  (.draw 4 [⟨some 40, .p (.mov (.t 5)), none⟩,
    ⟨some 41, .p (.slV 1 (.t 40) (some (.c (.int .i64 ((1 : Nat) : Int)))) none), none⟩,
    ⟨some 42, .p (.mov (.t 6)), none⟩,
    ⟨some 43, .p (.slV 1 (.t 42) (some (.c (.int .i64 ((1 : Nat) : Int)))) none), none⟩,
    ⟨some 5, .p (.mov (.t 41)), none⟩,
    ⟨some 6, .p (.mov (.t 43)), none⟩] [0, 1, 5, 6, 7, 8])))
def c_diff_Edits_b2 : VCode := .seq (.ops [⟨some 101, .p (.mov (.t 8)), none⟩,
    ⟨some 102, .p (.mov (.t 5)), none⟩,
    ⟨some 103, .p (.mov (.t 11)), none⟩,
    ⟨some 104, .p (.idxA 1 (.t 102) (.t 103)), none⟩,
    ⟨some 105, .p (.load false 1 (.t 104)), none⟩,
    ⟨some 106, .s (.callv (.t 101) [.c (.int .i64 ((0 : Nat) : Int)), .t 105]), none⟩] [5, 6, 7, 8, 9, 10, 11, 12])
  (.seq (.ops [⟨some 107, .p (.mov (.t 11)), none⟩,
    ⟨some 108, .p (.bin 3 .add (.t 107) (.c (.int .i64 ((1 : Nat) : Int)))), none⟩,
    ⟨some 11, .p (.mov (.t 108)), none⟩] [5, 6, 7, 8, 9, 10, 11, 12])
  (.ops [⟨some 109, .p (.mov (.t 12)), none⟩,
    ⟨some 110, .p (.bin 3 .add (.t 109) (.c (.int .i64 ((1 : Nat) : Int)))), none⟩,
    ⟨some 12, .p (.mov (.t 110)), none⟩] [5, 6, 7, 8, 9, 10, 11, 12]))
def c_diff_Edits_b3 : VCode := .draw 16 [⟨some 116, .p (.mov (.t 11)), none⟩,
    ⟨some 117, .p (.mov (.t 5)), none⟩,
    ⟨some 118, .p (.lenV (.t 117)), none⟩,
    ⟨some 119, .p (.bin 3 .lss (.t 116) (.t 118)), none⟩,
    ⟨some 120, .p (.mov (.t 119)), none⟩,
    ⟨some 121, .p (.mov (.t 9)), some ⟨120, true⟩⟩,
    ⟨some 122, .p (.mov (.t 121)), some ⟨120, true⟩⟩,
    ⟨some 123, .p (.load true 2 (.t 10)), some ⟨122, false⟩⟩,
    ⟨some 124, .p (.mov (.t 11)), some ⟨122, false⟩⟩,
    ⟨some 125, .p (.bin 3 .add (.t 124) (.c (.int .i64 ((1 : Nat) : Int)))), some ⟨122, false⟩⟩,
    ⟨some 126, .p (.mov (.t 12)), some ⟨122, false⟩⟩,
    ⟨some 127, .s (.call 115 [.t 123, .t 125, .t 126]), some ⟨122, false⟩⟩,
    ⟨some 128, .p (.load true 2 (.t 10)), some ⟨122, false⟩⟩,
    ⟨some 129, .p (.mov (.t 11)), some ⟨122, false⟩⟩,
    ⟨some 130, .p (.mov (.t 12)), some ⟨122, false⟩⟩,
    ⟨some 131, .p (.bin 3 .add (.t 130) (.c (.int .i64 ((1 : Nat) : Int)))), some ⟨122, false⟩⟩,
    ⟨some 132, .s (.call 115 [.t 128, .t 129, .t 131]), some ⟨122, false⟩⟩,
    ⟨some 133, .p (.bin 21 .geq (.t 127) (.t 132)), some ⟨122, false⟩⟩,
    ⟨some 134, .p (.pick (.t 122) (.c (.bool true)) (.t 133)), some ⟨120, true⟩⟩,
    ⟨some 135, .p (.pick (.t 120) (.t 134) (.c (.bool false))), none⟩,
    ⟨some 111, .p (.mov (.t 135)), none⟩] [5, 6, 7, 8, 9, 10, 11, 12, 111]
def c_diff_Edits_k4 : VCode := .cond (.t 111)
  (.skip)
  c_diff_Edits_b3
def c_diff_Edits_b5 : VCode := .seq (.ops [⟨some 136, .p (.mov (.t 8)), none⟩,
    ⟨some 137, .p (.mov (.t 5)), none⟩,
    ⟨some 138, .p (.mov (.t 11)), none⟩,
    ⟨some 139, .p (.idxA 1 (.t 137) (.t 138)), none⟩,
    ⟨some 140, .p (.load false 1 (.t 139)), none⟩,
    ⟨some 141, .s (.callv (.t 136) [.c (.int .i64 ((1 : Nat) : Int)), .t 140]), none⟩] [5, 6, 7, 8, 9, 10, 11, 12])
  (.ops [⟨some 142, .p (.mov (.t 11)), none⟩,
    ⟨some 143, .p (.bin 3 .add (.t 142) (.c (.int .i64 ((1 : Nat) : Int)))), none⟩,
    ⟨some 11, .p (.mov (.t 143)), none⟩] [5, 6, 7, 8, 9, 10, 11, 12])
def c_diff_Edits_b6 : VCode := .seq (.ops [⟨some 67, .p (.mov (.t 8)), none⟩,
    ⟨some 68, .p (.mov (.t 6)), none⟩,
    ⟨some 69, .p (.mov (.t 12)), none⟩,
    ⟨some 70, .p (.idxA 1 (.t 68) (.t 69)), none⟩,
    ⟨some 71, .p (.load false 1 (.t 70)), none⟩,
    ⟨some 72, .s (.callv (.t 67) [.c (.int .i64 ((2 : Nat) : Int)), .t 71]), none⟩] [5, 6, 7, 8, 9, 10, 11, 12])
  (.ops [⟨some 73, .p (.mov (.t 12)), none⟩,
    ⟨some 74, .p (.bin 3 .add (.t 73) (.c (.int .i64 ((1 : Nat) : Int)))), none⟩,
    ⟨some 12, .p (.mov (.t 74)), none⟩] [5, 6, 7, 8, 9, 10, 11, 12])
def c_diff_Edits_k7 : VCode := .cond (.t 111)
  c_diff_Edits_b5
  c_diff_Edits_b6
def c_diff_Edits_b8 : VCode := .seq (.seq (.ops [⟨some 112, .p (.mov (.t 12)), none⟩,
    ⟨some 113, .p (.mov (.t 6)), none⟩,
    ⟨some 114, .p (.lenV (.t 113)), none⟩,
    ⟨some 115, .p (.bin 3 .eql (.t 112) (.t 114)), none⟩,
    ⟨some 111, .p (.mov (.t 115)), none⟩] [5, 6, 7, 8, 9, 10, 11, 12, 111])
  c_diff_Edits_k4)
  c_diff_Edits_k7
def c_diff_Edits_k9 : VCode := .cond (.t 75)
  c_diff_Edits_b2
  c_diff_Edits_b8
def c_diff_Edits_k10 : VCode := .block 3 (.block 4 (.seq (.draw 23 [⟨some 76, .p (.mov (.t 9)), none⟩,
    ⟨some 77, .p (.un .not (.t 76)), none⟩,
    ⟨some 78, .p (.mov (.t 77)), none⟩,
    ⟨some 79, .p (.mov (.t 11)), some ⟨78, true⟩⟩,
    ⟨some 80, .p (.mov (.t 5)), some ⟨78, true⟩⟩,
    ⟨some 81, .p (.lenV (.t 80)), some ⟨78, true⟩⟩,
    ⟨some 82, .p (.bin 3 .lss (.t 79) (.t 81)), some ⟨78, true⟩⟩,
    ⟨some 83, .p (.pick (.t 78) (.t 82) (.c (.bool false))), none⟩,
    ⟨some 84, .p (.mov (.t 83)), none⟩,
    ⟨some 85, .p (.mov (.t 12)), some ⟨84, true⟩⟩,
    ⟨some 86, .p (.mov (.t 6)), some ⟨84, true⟩⟩,
    ⟨some 87, .p (.lenV (.t 86)), some ⟨84, true⟩⟩,
    ⟨some 88, .p (.bin 3 .lss (.t 85) (.t 87)), some ⟨84, true⟩⟩,
    ⟨some 89, .p (.pick (.t 84) (.t 88) (.c (.bool false))), none⟩,
    ⟨some 90, .p (.mov (.t 89)), none⟩,
    ⟨some 91, .p (.mov (.t 5)), some ⟨90, true⟩⟩,
    ⟨some 92, .p (.mov (.t 11)), some ⟨90, true⟩⟩,
    ⟨some 93, .p (.idxA 1 (.t 91) (.t 92)), some ⟨90, true⟩⟩,
    ⟨some 94, .p (.load false 1 (.t 93)), some ⟨90, true⟩⟩,
    ⟨some 95, .p (.mov (.t 6)), some ⟨90, true⟩⟩,
    ⟨some 96, .p (.mov (.t 12)), some ⟨90, true⟩⟩,
    ⟨some 97, .p (.idxA 1 (.t 95) (.t 96)), some ⟨90, true⟩⟩,
    ⟨some 98, .p (.load false 1 (.t 97)), some ⟨90, true⟩⟩,
    ⟨some 99, .p (.bin 9 .eql (.t 94) (.t 98)), some ⟨90, true⟩⟩,
    ⟨some 100, .p (.pick (.t 90) (.t 99) (.c (.bool false))), none⟩,
    ⟨some 75, .p (.mov (.t 100)), none⟩] [5, 6, 7, 8, 9, 10, 11, 12, 75])
  c_diff_Edits_k9))
def c_diff_Edits_L11 : VCode := .seq (.seq (.ops [⟨some 57, .p (.mov (.t 11)), none⟩,
    ⟨some 58, .p (.mov (.t 5)), none⟩,
    ⟨some 59, .p (.lenV (.t 58)), none⟩,
    ⟨some 60, .p (.bin 3 .lss (.t 57) (.t 59)), none⟩,
    ⟨some 61, .p (.mov (.t 60)), none⟩,
    ⟨some 62, .p (.mov (.t 12)), some ⟨61, false⟩⟩,
    ⟨some 63, .p (.mov (.t 6)), some ⟨61, false⟩⟩,
    ⟨some 64, .p (.lenV (.t 63)), some ⟨61, false⟩⟩,
    ⟨some 65, .p (.bin 3 .lss (.t 62) (.t 64)), some ⟨61, false⟩⟩,
    ⟨some 66, .p (.pick (.t 61) (.c (.bool true)) (.t 65)), none⟩] [5, 6, 7, 8, 9, 10, 11, 12, 66])
  (.cond (.t 66)
  (.skip)
  (.exit 2)))
  c_diff_Edits_k10
def c_diff_Edits_k12 : VCode := .seq (.ops [⟨some 144, .p (.load false 1 (.t 7)), none⟩,
    ⟨some 4, .p (.mov (.t 144)), none⟩] [4])
  (.ret)
def c_diff_Edits_k13 : VCode := .seq (.block 2 (.ownB 7 [] 2 (.loop [5, 6, 7, 8, 9, 10, 11, 12] c_diff_Edits_L11)))
  c_diff_Edits_k12
def c_diff_Edits_k14 : VCode := .seq (.ops [⟨some 11, .p (.mov (.c (.int .i64 ((0 : Nat) : Int)))), none⟩,
    ⟨some 12, .p (.mov (.c (.int .i64 ((0 : Nat) : Int)))), none⟩] [5, 6, 7, 8, 9, 10, 11, 12])
  c_diff_Edits_k13
def c_diff_Edits_k15 : VCode := .seq (.seq (.ops [⟨some 52, .p (.mov (.t 9)), none⟩,
    ⟨some 53, .p (.un .not (.t 52)), none⟩] [5, 6, 7, 8, 9, 10, 53])
  (.cond (.t 53)
  (.ops [⟨some 54, .p (.mov (.t 5)), none⟩,
      ⟨some 55, .p (.mov (.t 6)), none⟩,
      ⟨some 56, .s (.call 114 [.t 54, .t 55]), none⟩,
      ⟨none, .s (.store 2 (.t 10) (.t 56)), none⟩] [5, 6, 7, 8, 9, 10])
  (.skip)))
  c_diff_Edits_k14
def c_diff_Edits_k16 : VCode := .seq (.ops [⟨some 10, .s (.alloc (.agg [.val (.int .i64 ((0 : Nat) : Int)), .val (.slice none 0 0)])), none⟩] [5, 6, 7, 8, 9, 10])
  c_diff_Edits_k15
def c_diff_Edits_k17 : VCode := .seq (.ops [⟨some 44, .p (.mov (.t 0)), none⟩,
    ⟨some 45, .s (.call 112 [.t 44]), none⟩,
    ⟨some 46, .p (.lenV (.t 45)), none⟩,
    ⟨some 47, .p (.mov (.t 1)), none⟩,
    ⟨some 48, .s (.call 112 [.t 47]), none⟩,
    ⟨some 49, .p (.lenV (.t 48)), none⟩,
    ⟨some 50, .p (.max (.t 46) (.t 49)), none⟩,
    ⟨some 51, .p (.bin 3 .gtr (.t 50) (.c (.int .i64 ((2000 : Nat) : Int)))), none⟩,
    ⟨some 9, .p (.mov (.t 51)), none⟩] [5, 6, 7, 8, 9])
  c_diff_Edits_k16
def c_diff_Edits_k18 : VCode := .seq (.block 0 (.ownB 7 [] 2 (.loop [0, 1, 5, 6, 7, 8] c_diff_Edits_L1)))
  c_diff_Edits_k17
def c_diff_Edits_k19 : VCode := .seq (.ops [⟨some 17, .p (.mkf (.func 113) [] [.t 7]), none⟩,
    ⟨some 8, .p (.mov (.t 17)), none⟩] [0, 1, 5, 6, 7, 8])
  c_diff_Edits_k18
def c_diff_Edits_k20 : VCode := .seq (.ops [⟨some 7, .s (.alloc (.val (.slice none 0 0))), none⟩] [0, 1, 5, 6, 7])
  c_diff_Edits_k19
def c_diff_Edits_k21 : VCode := .seq (.ops [⟨some 13, .p (.mov (.t 0)), none⟩,
    ⟨some 14, .s (.call 112 [.t 13]), none⟩,
    ⟨some 15, .p (.mov (.t 1)), none⟩,
    ⟨some 16, .s (.call 112 [.t 15]), none⟩,
    ⟨some 5, .p (.mov (.t 14)), none⟩,
    ⟨some 6, .p (.mov (.t 16)), none⟩] [0, 1, 5, 6])
  c_diff_Edits_k20
def c_diff_Edits : VCode := .seq (.ops [⟨some 4, .p (.mov (.c (.slice none 0 0))), none⟩] [0, 1])
  c_diff_Edits_k21
def r_diff_Edits : List VR := [.tmp 4]
theorem t_diff_Edits : Tryd.f57.body.bind (trC Tryd.prog Tryd.f57.ntmps) = some (er c_diff_Edits) := by kernel_rfl
theorem w_diff_Edits : trR Tryd.prog Tryd.f57.results.toList = some r_diff_Edits := by kernel_rfl
theorem u_diff_Edits_L1_e {P : Program} {Q : VEx → Env → List Ob → Prop} {e : Env} {H : List Ob} : vwp P c_diff_Edits_L1 Q e H = vwp P (.seq (.seq (.draw 15 [⟨some 18, .p (.mov (.t 5)), none⟩,
    ⟨some 19, .p (.lenV (.t 18)), none⟩,
    ⟨some 20, .p (.bin 3 .gtr (.t 19) (.c (.int .i64 ((0 : Nat) : Int)))), none⟩,
    ⟨some 21, .p (.mov (.t 20)), none⟩,
    ⟨some 22, .p (.mov (.t 6)), some ⟨21, true⟩⟩,
    ⟨some 23, .p (.lenV (.t 22)), some ⟨21, true⟩⟩,
    ⟨some 24, .p (.bin 3 .gtr (.t 23) (.c (.int .i64 ((0 : Nat) : Int)))), some ⟨21, true⟩⟩,
    ⟨some 25, .p (.pick (.t 21) (.t 24) (.c (.bool false))), none⟩,
    ⟨some 26, .p (.mov (.t 25)), none⟩,
    ⟨some 27, .p (.mov (.t 5)), some ⟨26, true⟩⟩,
    ⟨some 28, .p (.idxA 1 (.t 27) (.c (.int .i64 ((0 : Nat) : Int)))), some ⟨26, true⟩⟩,
    ⟨some 29, .p (.load false 1 (.t 28)), some ⟨26, true⟩⟩,
    ⟨some 30, .p (.mov (.t 6)), some ⟨26, true⟩⟩,
    ⟨some 31, .p (.idxA 1 (.t 30) (.c (.int .i64 ((0 : Nat) : Int)))), some ⟨26, true⟩⟩,
    ⟨some 32, .p (.load false 1 (.t 31)), some ⟨26, true⟩⟩,
    ⟨some 33, .p (.bin 9 .eql (.t 29) (.t 32)), some ⟨26, true⟩⟩,
    ⟨some 34, .p (.pick (.t 26) (.t 33) (.c (.bool false))), none⟩] [0, 1, 5, 6, 7, 8, 34])
  (.cond (.t 34)
  (.skip)
  (.exit 0)))
  (.block 1 (.seq (.ops [⟨some 35, .p (.mov (.t 8)), none⟩,
    ⟨some 36, .p (.mov (.t 5)), none⟩,
    ⟨some 37, .p (.idxA 1 (.t 36) (.c (.int .i64 ((0 : Nat) : Int)))), none⟩,
    ⟨some 38, .p (.load false 1 (.t 37)), none⟩,
    ⟨some 39, .s (.callv (.t 35) [.c (.int .i64 ((0 : Nat) : Int)), .t 38]), none⟩] [0, 1, 5, 6, 7, 8])
  (.draw 4 [⟨some 40, .p (.mov (.t 5)), none⟩,
    ⟨some 41, .p (.slV 1 (.t 40) (some (.c (.int .i64 ((1 : Nat) : Int)))) none), none⟩,
    ⟨some 42, .p (.mov (.t 6)), none⟩,
    ⟨some 43, .p (.slV 1 (.t 42) (some (.c (.int .i64 ((1 : Nat) : Int)))) none), none⟩,
    ⟨some 5, .p (.mov (.t 41)), none⟩,
    ⟨some 6, .p (.mov (.t 43)), none⟩] [0, 1, 5, 6, 7, 8])))) Q e H := by_refl rfl
theorem u_diff_Edits_b2_e {P : Program} {Q : VEx → Env → List Ob → Prop} {e : Env} {H : List Ob} : vwp P c_diff_Edits_b2 Q e H = vwp P (.seq (.ops [⟨some 101, .p (.mov (.t 8)), none⟩,
    ⟨some 102, .p (.mov (.t 5)), none⟩,
    ⟨some 103, .p (.mov (.t 11)), none⟩,
    ⟨some 104, .p (.idxA 1 (.t 102) (.t 103)), none⟩,
    ⟨some 105, .p (.load false 1 (.t 104)), none⟩,
    ⟨some 106, .s (.callv (.t 101) [.c (.int .i64 ((0 : Nat) : Int)), .t 105]), none⟩] [5, 6, 7, 8, 9, 10, 11, 12])
  (.seq (.ops [⟨some 107, .p (.mov (.t 11)), none⟩,
    ⟨some 108, .p (.bin 3 .add (.t 107) (.c (.int .i64 ((1 : Nat) : Int)))), none⟩,
    ⟨some 11, .p (.mov (.t 108)), none⟩] [5, 6, 7, 8, 9, 10, 11, 12])
  (.ops [⟨some 109, .p (.mov (.t 12)), none⟩,
    ⟨some 110, .p (.bin 3 .add (.t 109) (.c (.int .i64 ((1 : Nat) : Int)))), none⟩,
    ⟨some 12, .p (.mov (.t 110)), none⟩] [5, 6, 7, 8, 9, 10, 11, 12]))) Q e H := by_refl rfl
theorem u_diff_Edits_b3_e {P : Program} {Q : VEx → Env → List Ob → Prop} {e : Env} {H : List Ob} : vwp P c_diff_Edits_b3 Q e H = vwp P (.draw 16 [⟨some 116, .p (.mov (.t 11)), none⟩,
    ⟨some 117, .p (.mov (.t 5)), none⟩,
    ⟨some 118, .p (.lenV (.t 117)), none⟩,
    ⟨some 119, .p (.bin 3 .lss (.t 116) (.t 118)), none⟩,
    ⟨some 120, .p (.mov (.t 119)), none⟩,
    ⟨some 121, .p (.mov (.t 9)), some ⟨120, true⟩⟩,
    ⟨some 122, .p (.mov (.t 121)), some ⟨120, true⟩⟩,
    ⟨some 123, .p (.load true 2 (.t 10)), some ⟨122, false⟩⟩,
    ⟨some 124, .p (.mov (.t 11)), some ⟨122, false⟩⟩,
    ⟨some 125, .p (.bin 3 .add (.t 124) (.c (.int .i64 ((1 : Nat) : Int)))), some ⟨122, false⟩⟩,
    ⟨some 126, .p (.mov (.t 12)), some ⟨122, false⟩⟩,
    ⟨some 127, .s (.call 115 [.t 123, .t 125, .t 126]), some ⟨122, false⟩⟩,
    ⟨some 128, .p (.load true 2 (.t 10)), some ⟨122, false⟩⟩,
    ⟨some 129, .p (.mov (.t 11)), some ⟨122, false⟩⟩,
    ⟨some 130, .p (.mov (.t 12)), some ⟨122, false⟩⟩,
    ⟨some 131, .p (.bin 3 .add (.t 130) (.c (.int .i64 ((1 : Nat) : Int)))), some ⟨122, false⟩⟩,
    ⟨some 132, .s (.call 115 [.t 128, .t 129, .t 131]), some ⟨122, false⟩⟩,
    ⟨some 133, .p (.bin 21 .geq (.t 127) (.t 132)), some ⟨122, false⟩⟩,
    ⟨some 134, .p (.pick (.t 122) (.c (.bool true)) (.t 133)), some ⟨120, true⟩⟩,
    ⟨some 135, .p (.pick (.t 120) (.t 134) (.c (.bool false))), none⟩,
    ⟨some 111, .p (.mov (.t 135)), none⟩] [5, 6, 7, 8, 9, 10, 11, 12, 111]) Q e H := by_refl rfl
theorem u_diff_Edits_k4_e {P : Program} {Q : VEx → Env → List Ob → Prop} {e : Env} {H : List Ob} : vwp P c_diff_Edits_k4 Q e H = vwp P (.cond (.t 111)
  (.skip)
  c_diff_Edits_b3) Q e H := by_refl rfl
theorem u_diff_Edits_b5_e {P : Program} {Q : VEx → Env → List Ob → Prop} {e : Env} {H : List Ob} : vwp P c_diff_Edits_b5 Q e H = vwp P (.seq (.ops [⟨some 136, .p (.mov (.t 8)), none⟩,
    ⟨some 137, .p (.mov (.t 5)), none⟩,
    ⟨some 138, .p (.mov (.t 11)), none⟩,
    ⟨some 139, .p (.idxA 1 (.t 137) (.t 138)), none⟩,
    ⟨some 140, .p (.load false 1 (.t 139)), none⟩,
    ⟨some 141, .s (.callv (.t 136) [.c (.int .i64 ((1 : Nat) : Int)), .t 140]), none⟩] [5, 6, 7, 8, 9, 10, 11, 12])
  (.ops [⟨some 142, .p (.mov (.t 11)), none⟩,
    ⟨some 143, .p (.bin 3 .add (.t 142) (.c (.int .i64 ((1 : Nat) : Int)))), none⟩,
    ⟨some 11, .p (.mov (.t 143)), none⟩] [5, 6, 7, 8, 9, 10, 11, 12])) Q e H := by_refl rfl
theorem u_diff_Edits_b6_e {P : Program} {Q : VEx → Env → List Ob → Prop} {e : Env} {H : List Ob} : vwp P c_diff_Edits_b6 Q e H = vwp P (.seq (.ops [⟨some 67, .p (.mov (.t 8)), none⟩,
    ⟨some 68, .p (.mov (.t 6)), none⟩,
    ⟨some 69, .p (.mov (.t 12)), none⟩,
    ⟨some 70, .p (.idxA 1 (.t 68) (.t 69)), none⟩,
    ⟨some 71, .p (.load false 1 (.t 70)), none⟩,
    ⟨some 72, .s (.callv (.t 67) [.c (.int .i64 ((2 : Nat) : Int)), .t 71]), none⟩] [5, 6, 7, 8, 9, 10, 11, 12])
  (.ops [⟨some 73, .p (.mov (.t 12)), none⟩,
    ⟨some 74, .p (.bin 3 .add (.t 73) (.c (.int .i64 ((1 : Nat) : Int)))), none⟩,
    ⟨some 12, .p (.mov (.t 74)), none⟩] [5, 6, 7, 8, 9, 10, 11, 12])) Q e H := by_refl rfl
theorem u_diff_Edits_k7_e {P : Program} {Q : VEx → Env → List Ob → Prop} {e : Env} {H : List Ob} : vwp P c_diff_Edits_k7 Q e H = vwp P (.cond (.t 111)
  c_diff_Edits_b5
  c_diff_Edits_b6) Q e H := by_refl rfl
theorem u_diff_Edits_b8_e {P : Program} {Q : VEx → Env → List Ob → Prop} {e : Env} {H : List Ob} : vwp P c_diff_Edits_b8 Q e H = vwp P (.seq (.seq (.ops [⟨some 112, .p (.mov (.t 12)), none⟩,
    ⟨some 113, .p (.mov (.t 6)), none⟩,
    ⟨some 114, .p (.lenV (.t 113)), none⟩,
    ⟨some 115, .p (.bin 3 .eql (.t 112) (.t 114)), none⟩,
    ⟨some 111, .p (.mov (.t 115)), none⟩] [5, 6, 7, 8, 9, 10, 11, 12, 111])
  c_diff_Edits_k4)
  c_diff_Edits_k7) Q e H := by_refl rfl
theorem u_diff_Edits_k9_e {P : Program} {Q : VEx → Env → List Ob → Prop} {e : Env} {H : List Ob} : vwp P c_diff_Edits_k9 Q e H = vwp P (.cond (.t 75)
  c_diff_Edits_b2
  c_diff_Edits_b8) Q e H := by_refl rfl
theorem u_diff_Edits_k10_e {P : Program} {Q : VEx → Env → List Ob → Prop} {e : Env} {H : List Ob} : vwp P c_diff_Edits_k10 Q e H = vwp P (.block 3 (.block 4 (.seq (.draw 23 [⟨some 76, .p (.mov (.t 9)), none⟩,
    ⟨some 77, .p (.un .not (.t 76)), none⟩,
    ⟨some 78, .p (.mov (.t 77)), none⟩,
    ⟨some 79, .p (.mov (.t 11)), some ⟨78, true⟩⟩,
    ⟨some 80, .p (.mov (.t 5)), some ⟨78, true⟩⟩,
    ⟨some 81, .p (.lenV (.t 80)), some ⟨78, true⟩⟩,
    ⟨some 82, .p (.bin 3 .lss (.t 79) (.t 81)), some ⟨78, true⟩⟩,
    ⟨some 83, .p (.pick (.t 78) (.t 82) (.c (.bool false))), none⟩,
    ⟨some 84, .p (.mov (.t 83)), none⟩,
    ⟨some 85, .p (.mov (.t 12)), some ⟨84, true⟩⟩,
    ⟨some 86, .p (.mov (.t 6)), some ⟨84, true⟩⟩,
    ⟨some 87, .p (.lenV (.t 86)), some ⟨84, true⟩⟩,
    ⟨some 88, .p (.bin 3 .lss (.t 85) (.t 87)), some ⟨84, true⟩⟩,
    ⟨some 89, .p (.pick (.t 84) (.t 88) (.c (.bool false))), none⟩,
    ⟨some 90, .p (.mov (.t 89)), none⟩,
    ⟨some 91, .p (.mov (.t 5)), some ⟨90, true⟩⟩,
    ⟨some 92, .p (.mov (.t 11)), some ⟨90, true⟩⟩,
    ⟨some 93, .p (.idxA 1 (.t 91) (.t 92)), some ⟨90, true⟩⟩,
    ⟨some 94, .p (.load false 1 (.t 93)), some ⟨90, true⟩⟩,
    ⟨some 95, .p (.mov (.t 6)), some ⟨90, true⟩⟩,
    ⟨some 96, .p (.mov (.t 12)), some ⟨90, true⟩⟩,
    ⟨some 97, .p (.idxA 1 (.t 95) (.t 96)), some ⟨90, true⟩⟩,
    ⟨some 98, .p (.load false 1 (.t 97)), some ⟨90, true⟩⟩,
    ⟨some 99, .p (.bin 9 .eql (.t 94) (.t 98)), some ⟨90, true⟩⟩,
    ⟨some 100, .p (.pick (.t 90) (.t 99) (.c (.bool false))), none⟩,
    ⟨some 75, .p (.mov (.t 100)), none⟩] [5, 6, 7, 8, 9, 10, 11, 12, 75])
  c_diff_Edits_k9))) Q e H := by_refl rfl
theorem u_diff_Edits_L11_e {P : Program} {Q : VEx → Env → List Ob → Prop} {e : Env} {H : List Ob} : vwp P c_diff_Edits_L11 Q e H = vwp P (.seq (.seq (.ops [⟨some 57, .p (.mov (.t 11)), none⟩,
    ⟨some 58, .p (.mov (.t 5)), none⟩,
    ⟨some 59, .p (.lenV (.t 58)), none⟩,
    ⟨some 60, .p (.bin 3 .lss (.t 57) (.t 59)), none⟩,
    ⟨some 61, .p (.mov (.t 60)), none⟩,
    ⟨some 62, .p (.mov (.t 12)), some ⟨61, false⟩⟩,
    ⟨some 63, .p (.mov (.t 6)), some ⟨61, false⟩⟩,
    ⟨some 64, .p (.lenV (.t 63)), some ⟨61, false⟩⟩,
    ⟨some 65, .p (.bin 3 .lss (.t 62) (.t 64)), some ⟨61, false⟩⟩,
    ⟨some 66, .p (.pick (.t 61) (.c (.bool true)) (.t 65)), none⟩] [5, 6, 7, 8, 9, 10, 11, 12, 66])
  (.cond (.t 66)
  (.skip)
  (.exit 2)))
  c_diff_Edits_k10) Q e H := by_refl rfl
theorem u_diff_Edits_k12_e {P : Program} {Q : VEx → Env → List Ob → Prop} {e : Env} {H : List Ob} : vwp P c_diff_Edits_k12 Q e H = vwp P (.seq (.ops [⟨some 144, .p (.load false 1 (.t 7)), none⟩,
    ⟨some 4, .p (.mov (.t 144)), none⟩] [4])
  (.ret)) Q e H := by_refl rfl
theorem u_diff_Edits_k13_e {P : Program} {Q : VEx → Env → List Ob → Prop} {e : Env} {H : List Ob} : vwp P c_diff_Edits_k13 Q e H = vwp P (.seq (.block 2 (.ownB 7 [] 2 (.loop [5, 6, 7, 8, 9, 10, 11, 12] c_diff_Edits_L11)))
  c_diff_Edits_k12) Q e H := by_refl rfl
theorem u_diff_Edits_k14_e {P : Program} {Q : VEx → Env → List Ob → Prop} {e : Env} {H : List Ob} : vwp P c_diff_Edits_k14 Q e H = vwp P (.seq (.ops [⟨some 11, .p (.mov (.c (.int .i64 ((0 : Nat) : Int)))), none⟩,
    ⟨some 12, .p (.mov (.c (.int .i64 ((0 : Nat) : Int)))), none⟩] [5, 6, 7, 8, 9, 10, 11, 12])
  c_diff_Edits_k13) Q e H := by_refl rfl
theorem u_diff_Edits_k15_e {P : Program} {Q : VEx → Env → List Ob → Prop} {e : Env} {H : List Ob} : vwp P c_diff_Edits_k15 Q e H = vwp P (.seq (.seq (.ops [⟨some 52, .p (.mov (.t 9)), none⟩,
    ⟨some 53, .p (.un .not (.t 52)), none⟩] [5, 6, 7, 8, 9, 10, 53])
  (.cond (.t 53)
  (.ops [⟨some 54, .p (.mov (.t 5)), none⟩,
      ⟨some 55, .p (.mov (.t 6)), none⟩,
      ⟨some 56, .s (.call 114 [.t 54, .t 55]), none⟩,
      ⟨none, .s (.store 2 (.t 10) (.t 56)), none⟩] [5, 6, 7, 8, 9, 10])
  (.skip)))
  c_diff_Edits_k14) Q e H := by_refl rfl
theorem u_diff_Edits_k16_e {P : Program} {Q : VEx → Env → List Ob → Prop} {e : Env} {H : List Ob} : vwp P c_diff_Edits_k16 Q e H = vwp P (.seq (.ops [⟨some 10, .s (.alloc (.agg [.val (.int .i64 ((0 : Nat) : Int)), .val (.slice none 0 0)])), none⟩] [5, 6, 7, 8, 9, 10])
  c_diff_Edits_k15) Q e H := by_refl rfl
theorem u_diff_Edits_k17_e {P : Program} {Q : VEx → Env → List Ob → Prop} {e : Env} {H : List Ob} : vwp P c_diff_Edits_k17 Q e H = vwp P (.seq (.ops [⟨some 44, .p (.mov (.t 0)), none⟩,
    ⟨some 45, .s (.call 112 [.t 44]), none⟩,
    ⟨some 46, .p (.lenV (.t 45)), none⟩,
    ⟨some 47, .p (.mov (.t 1)), none⟩,
    ⟨some 48, .s (.call 112 [.t 47]), none⟩,
    ⟨some 49, .p (.lenV (.t 48)), none⟩,
    ⟨some 50, .p (.max (.t 46) (.t 49)), none⟩,
    ⟨some 51, .p (.bin 3 .gtr (.t 50) (.c (.int .i64 ((2000 : Nat) : Int)))), none⟩,
    ⟨some 9, .p (.mov (.t 51)), none⟩] [5, 6, 7, 8, 9])
  c_diff_Edits_k16) Q e H := by_refl rfl
theorem u_diff_Edits_k18_e {P : Program} {Q : VEx → Env → List Ob → Prop} {e : Env} {H : List Ob} : vwp P c_diff_Edits_k18 Q e H = vwp P (.seq (.block 0 (.ownB 7 [] 2 (.loop [0, 1, 5, 6, 7, 8] c_diff_Edits_L1)))
  c_diff_Edits_k17) Q e H := by_refl rfl
theorem u_diff_Edits_k19_e {P : Program} {Q : VEx → Env → List Ob → Prop} {e : Env} {H : List Ob} : vwp P c_diff_Edits_k19 Q e H = vwp P (.seq (.ops [⟨some 17, .p (.mkf (.func 113) [] [.t 7]), none⟩,
    ⟨some 8, .p (.mov (.t 17)), none⟩] [0, 1, 5, 6, 7, 8])
  c_diff_Edits_k18) Q e H := by_refl rfl
theorem u_diff_Edits_k20_e {P : Program} {Q : VEx → Env → List Ob → Prop} {e : Env} {H : List Ob} : vwp P c_diff_Edits_k20 Q e H = vwp P (.seq (.ops [⟨some 7, .s (.alloc (.val (.slice none 0 0))), none⟩] [0, 1, 5, 6, 7])
  c_diff_Edits_k19) Q e H := by_refl rfl
theorem u_diff_Edits_k21_e {P : Program} {Q : VEx → Env → List Ob → Prop} {e : Env} {H : List Ob} : vwp P c_diff_Edits_k21 Q e H = vwp P (.seq (.ops [⟨some 13, .p (.mov (.t 0)), none⟩,
    ⟨some 14, .s (.call 112 [.t 13]), none⟩,
    ⟨some 15, .p (.mov (.t 1)), none⟩,
    ⟨some 16, .s (.call 112 [.t 15]), none⟩,
    ⟨some 5, .p (.mov (.t 14)), none⟩,
    ⟨some 6, .p (.mov (.t 16)), none⟩] [0, 1, 5, 6])
  c_diff_Edits_k20) Q e H := by_refl rfl
theorem u_diff_Edits_e {P : Program} {Q : VEx → Env → List Ob → Prop} {e : Env} {H : List Ob} : vwp P c_diff_Edits Q e H = vwp P (.seq (.ops [⟨some 4, .p (.mov (.c (.slice none 0 0))), none⟩] [0, 1])
  c_diff_Edits_k21) Q e H := by_refl rfl
theorem u_diff_Edits_r {K : TV → Prop} {e : Env} {H : List Ob} : res r_diff_Edits e H K = res [.tmp 4] e H K := by_refl rfl
def u_diff_Edits := (And.intro (And.intro (And.intro (And.intro (And.intro @u_diff_Edits_L1_e @u_diff_Edits_b2_e) (And.intro @u_diff_Edits_b3_e @u_diff_Edits_k4_e)) (And.intro (And.intro @u_diff_Edits_b5_e @u_diff_Edits_b6_e) (And.intro @u_diff_Edits_k7_e @u_diff_Edits_b8_e))) (And.intro (And.intro (And.intro @u_diff_Edits_k9_e @u_diff_Edits_k10_e) (And.intro @u_diff_Edits_L11_e @u_diff_Edits_k12_e)) (And.intro (And.intro @u_diff_Edits_k13_e @u_diff_Edits_k14_e) (And.intro @u_diff_Edits_k15_e @u_diff_Edits_k16_e)))) (And.intro (And.intro (And.intro @u_diff_Edits_k17_e @u_diff_Edits_k18_e) (And.intro @u_diff_Edits_k19_e @u_diff_Edits_k20_e)) (And.intro (And.intro @u_diff_Edits_k21_e @u_diff_Edits_e) @u_diff_Edits_r)))
theorem go_diff_Edits {args : List TV} {H : List Ob} {R : TV → List Ob → Prop} (hn : args.length ≤ 145) (h : vwp Tryd.prog c_diff_Edits (atEnd r_diff_Edits R) (argsE 0 args) H) : VCalls Tryd.prog 57 args H R := vcalls_of Tryd.func57 t_diff_Edits w_diff_Edits hn h

/-! gitlike/diff.Edits$1 -/
def c_diff_Edits_1 : VCode := .ops [⟨some 5, .p (.load false 1 (.t 2)), none⟩,
    ⟨some 6, .p (.mov (.t 0)), none⟩,
    ⟨some 7, .p (.mov (.t 1)), none⟩,
    ⟨some 8, .p (.build [.val (.int .i64 ((0 : Nat) : Int)), .val (.string (str []))] [1, 1] [⟨0, .t 6⟩, ⟨1, .t 7⟩]), none⟩,
    ⟨some 9, .s (.bslice 2 1 (.agg [.val (.int .i64 ((0 : Nat) : Int)), .val (.string (str []))]) [⟨0, .t 8⟩]), none⟩,
    ⟨some 10, .s (.app 2 24 174 (.t 5) (.t 9)), none⟩,
    ⟨none, .s (.store 1 (.t 2) (.t 10)), none⟩] []
def r_diff_Edits_1 : List VR := []
theorem t_diff_Edits_1 : Tryd.f113.body.bind (trC Tryd.prog Tryd.f113.ntmps) = some (er c_diff_Edits_1) := by kernel_rfl
theorem w_diff_Edits_1 : trR Tryd.prog Tryd.f113.results.toList = some r_diff_Edits_1 := by kernel_rfl
theorem u_diff_Edits_1_e {P : Program} {Q : VEx → Env → List Ob → Prop} {e : Env} {H : List Ob} : vwp P c_diff_Edits_1 Q e H = vwp P (.ops [⟨some 5, .p (.load false 1 (.t 2)), none⟩,
    ⟨some 6, .p (.mov (.t 0)), none⟩,
    ⟨some 7, .p (.mov (.t 1)), none⟩,
    ⟨some 8, .p (.build [.val (.int .i64 ((0 : Nat) : Int)), .val (.string (str []))] [1, 1] [⟨0, .t 6⟩, ⟨1, .t 7⟩]), none⟩,
    ⟨some 9, .s (.bslice 2 1 (.agg [.val (.int .i64 ((0 : Nat) : Int)), .val (.string (str []))]) [⟨0, .t 8⟩]), none⟩,
    ⟨some 10, .s (.app 2 24 174 (.t 5) (.t 9)), none⟩,
    ⟨none, .s (.store 1 (.t 2) (.t 10)), none⟩] []) Q e H := by_refl rfl
theorem u_diff_Edits_1_r {K : TV → Prop} {e : Env} {H : List Ob} : res r_diff_Edits_1 e H K = res [] e H K := by_refl rfl
def u_diff_Edits_1 := (And.intro @u_diff_Edits_1_e @u_diff_Edits_1_r)
theorem go_diff_Edits_1 {args : List TV} {H : List Ob} {R : TV → List Ob → Prop} (hn : args.length ≤ 11) (h : vwp Tryd.prog c_diff_Edits_1 (atEnd r_diff_Edits_1 R) (argsE 0 args) H) : VCalls Tryd.prog 113 args H R := vcalls_of Tryd.func113 t_diff_Edits_1 w_diff_Edits_1 hn h

/-! gitlike/diff.fill -/
def c_diff_fill_b1 : VCode := .ops [⟨some 55, .p (.load true 2 (.t 5)), none⟩,
    ⟨some 56, .p (.mov (.t 6)), none⟩,
    ⟨some 57, .p (.bin 3 .add (.t 56) (.c (.int .i64 ((1 : Nat) : Int)))), none⟩,
    ⟨some 58, .p (.mov (.t 7)), none⟩,
    ⟨some 59, .p (.bin 3 .add (.t 58) (.c (.int .i64 ((1 : Nat) : Int)))), none⟩,
    ⟨some 60, .s (.call 115 [.t 55, .t 57, .t 59]), none⟩,
    ⟨some 61, .p (.bin 21 .add (.t 60) (.c (.int .i32 ((1 : Nat) : Int)))), none⟩,
    ⟨some 8, .p (.mov (.t 61)), none⟩] [0, 1, 4, 5, 6, 7, 8]
def c_diff_fill_k2 : VCode := .seq (.seq (.draw 5 [⟨some 46, .p (.mov (.t 0)), none⟩,
    ⟨some 47, .p (.mov (.t 6)), none⟩,
    ⟨some 48, .p (.idxA 1 (.t 46) (.t 47)), none⟩,
    ⟨some 49, .p (.load false 1 (.t 48)), none⟩,
    ⟨some 50, .p (.mov (.t 1)), none⟩,
    ⟨some 51, .p (.mov (.t 7)), none⟩,
    ⟨some 52, .p (.idxA 1 (.t 50) (.t 51)), none⟩,
    ⟨some 53, .p (.load false 1 (.t 52)), none⟩,
    ⟨some 54, .p (.bin 9 .eql (.t 49) (.t 53)), none⟩] [0, 1, 4, 5, 6, 7, 8, 54])
  (.cond (.t 54)
  c_diff_fill_b1
  (.skip)))
  (.ops [⟨some 62, .p (.fieldA 1 1 (.t 5)), none⟩,
    ⟨some 63, .p (.load false 1 (.t 62)), none⟩,
    ⟨some 64, .p (.mov (.t 6)), none⟩,
    ⟨some 65, .p (.fieldA 0 0 (.t 5)), none⟩,
    ⟨some 66, .p (.load false 1 (.t 65)), none⟩,
    ⟨some 67, .p (.bin 3 .mul (.t 64) (.t 66)), none⟩,
    ⟨some 68, .p (.mov (.t 7)), none⟩,
    ⟨some 69, .p (.bin 3 .add (.t 67) (.t 68)), none⟩,
    ⟨some 70, .p (.mov (.t 8)), none⟩,
    ⟨some 71, .p (.idxA 1 (.t 63) (.t 69)), none⟩,
    ⟨none, .s (.store 1 (.t 71) (.t 70)), none⟩] [0, 1, 4, 5, 6, 7])
def c_diff_fill_k3 : VCode := .seq (.block 3 (.seq (.draw 9 [⟨some 35, .p (.load true 2 (.t 5)), none⟩,
    ⟨some 36, .p (.mov (.t 6)), none⟩,
    ⟨some 37, .p (.bin 3 .add (.t 36) (.c (.int .i64 ((1 : Nat) : Int)))), none⟩,
    ⟨some 38, .p (.mov (.t 7)), none⟩,
    ⟨some 39, .s (.call 115 [.t 35, .t 37, .t 38]), none⟩,
    ⟨some 40, .p (.load true 2 (.t 5)), none⟩,
    ⟨some 41, .p (.mov (.t 6)), none⟩,
    ⟨some 42, .p (.mov (.t 7)), none⟩,
    ⟨some 43, .p (.bin 3 .add (.t 42) (.c (.int .i64 ((1 : Nat) : Int)))), none⟩,
    ⟨some 44, .s (.call 115 [.t 40, .t 41, .t 43]), none⟩,
    ⟨some 45, .p (.max (.t 39) (.t 44)), none⟩,
    ⟨some 8, .p (.mov (.t 45)), none⟩] [0, 1, 4, 5, 6, 7, 8])
  c_diff_fill_k2))
  (.ops [⟨some 33, .p (.mov (.t 7)), none⟩,
    ⟨some 34, .p (.bin 3 .sub (.t 33) (.c (.int .i64 ((1 : Nat) : Int)))), none⟩,
    ⟨some 7, .p (.mov (.t 34)), none⟩] [0, 1, 4, 5, 6, 7])
def c_diff_fill_L4 : VCode := .seq (.seq (.ops [⟨some 31, .p (.mov (.t 7)), none⟩,
    ⟨some 32, .p (.bin 3 .geq (.t 31) (.c (.int .i64 ((0 : Nat) : Int)))), none⟩] [0, 1, 4, 5, 6, 7, 32])
  (.cond (.t 32)
  (.skip)
  (.exit 2)))
  c_diff_fill_k3
def c_diff_fill_k5 : VCode := .block 2 (.loop [0, 1, 4, 5, 6, 7] c_diff_fill_L4)
def c_diff_fill_k6 : VCode := .ops [⟨some 26, .p (.mov (.t 6)), none⟩,
    ⟨some 27, .p (.bin 3 .sub (.t 26) (.c (.int .i64 ((1 : Nat) : Int)))), none⟩,
    ⟨some 6, .p (.mov (.t 27)), none⟩] [0, 1, 4, 5, 6]
def c_diff_fill_k7 : VCode := .seq (.block 1 (.seq (.ops [⟨some 28, .p (.mov (.t 1)), none⟩,
    ⟨some 29, .p (.lenV (.t 28)), none⟩,
    ⟨some 30, .p (.bin 3 .sub (.t 29) (.c (.int .i64 ((1 : Nat) : Int)))), none⟩,
    ⟨some 7, .p (.mov (.t 30)), none⟩] [0, 1, 4, 5, 6, 7])
  c_diff_fill_k5))
  c_diff_fill_k6
def c_diff_fill_L8 : VCode := .seq (.seq (.ops [⟨some 24, .p (.mov (.t 6)), none⟩,
    ⟨some 25, .p (.bin 3 .geq (.t 24) (.c (.int .i64 ((0 : Nat) : Int)))), none⟩] [0, 1, 4, 5, 6, 25])
  (.cond (.t 25)
  (.skip)
  (.exit 0)))
  c_diff_fill_k7
def c_diff_fill_k9 : VCode := .block 0 (.loop [0, 1, 4, 5, 6] c_diff_fill_L8)
def c_diff_fill_k10 : VCode := .seq (.ops [⟨some 72, .p (.load true 2 (.t 5)), none⟩,
    ⟨none, .s (.store 2 (.t 4) (.t 72)), none⟩] [4])
  (.ret)
def c_diff_fill_k11 : VCode := .seq (.seq (.ops [⟨some 21, .p (.mov (.t 0)), none⟩,
    ⟨some 22, .p (.lenV (.t 21)), none⟩,
    ⟨some 23, .p (.bin 3 .sub (.t 22) (.c (.int .i64 ((1 : Nat) : Int)))), none⟩,
    ⟨some 6, .p (.mov (.t 23)), none⟩] [0, 1, 4, 5, 6])
  c_diff_fill_k9)
  c_diff_fill_k10
def c_diff_fill_k12 : VCode := .seq (.ops [⟨some 9, .p (.mov (.t 1)), none⟩,
    ⟨some 10, .p (.lenV (.t 9)), none⟩,
    ⟨some 11, .p (.bin 3 .add (.t 10) (.c (.int .i64 ((1 : Nat) : Int)))), none⟩,
    ⟨some 12, .p (.mov (.t 0)), none⟩,
    ⟨some 13, .p (.lenV (.t 12)), none⟩,
    ⟨some 14, .p (.bin 3 .add (.t 13) (.c (.int .i64 ((1 : Nat) : Int)))), none⟩,
    ⟨some 15, .p (.mov (.t 1)), none⟩,
    ⟨some 16, .p (.lenV (.t 15)), none⟩,
    ⟨some 17, .p (.bin 3 .add (.t 16) (.c (.int .i64 ((1 : Nat) : Int)))), none⟩,
    ⟨some 18, .p (.bin 3 .mul (.t 14) (.t 17)), none⟩,
    ⟨some 19, .s (.mks 1 4 (.val (.int .i32 ((0 : Nat) : Int))) (.t 18) (.t 18)), none⟩,
    ⟨some 20, .p (.build [.val (.int .i64 ((0 : Nat) : Int)), .val (.slice none 0 0)] [1, 1] [⟨0, .t 11⟩, ⟨1, .t 19⟩]), none⟩,
    ⟨some 5, .s (.alloc (.agg [.val (.int .i64 ((0 : Nat) : Int)), .val (.slice none 0 0)])), none⟩,
    ⟨none, .s (.store 2 (.t 5) (.t 20)), none⟩] [0, 1, 4, 5])
  c_diff_fill_k11
def c_diff_fill : VCode := .seq (.ops [⟨some 4, .s (.alloc (.agg [.val (.int .i64 ((0 : Nat) : Int)), .val (.slice none 0 0)])), none⟩] [0, 1, 4])
  c_diff_fill_k12
def r_diff_fill : List VR := [.cell 4 true 2]
theorem t_diff_fill : Tryd.f114.body.bind (trC Tryd.prog Tryd.f114.ntmps) = some (er c_diff_fill) := by kernel_rfl
theorem w_diff_fill : trR Tryd.prog Tryd.f114.results.toList = some r_diff_fill := by kernel_rfl
theorem u_diff_fill_b1_e {P : Program} {Q : VEx → Env → List Ob → Prop} {e : Env} {H : List Ob} : vwp P c_diff_fill_b1 Q e H = vwp P (.ops [⟨some 55, .p (.load true 2 (.t 5)), none⟩,
    ⟨some 56, .p (.mov (.t 6)), none⟩,
    ⟨some 57, .p (.bin 3 .add (.t 56) (.c (.int .i64 ((1 : Nat) : Int)))), none⟩,
    ⟨some 58, .p (.mov (.t 7)), none⟩,
    ⟨some 59, .p (.bin 3 .add (.t 58) (.c (.int .i64 ((1 : Nat) : Int)))), none⟩,
    ⟨some 60, .s (.call 115 [.t 55, .t 57, .t 59]), none⟩,
    ⟨some 61, .p (.bin 21 .add (.t 60) (.c (.int .i32 ((1 : Nat) : Int)))), none⟩,
    ⟨some 8, .p (.mov (.t 61)), none⟩] [0, 1, 4, 5, 6, 7, 8]) Q e H := by_refl rfl
theorem u_diff_fill_k2_e {P : Program} {Q : VEx → Env → List Ob → Prop} {e : Env} {H : List Ob} : vwp P c_diff_fill_k2 Q e H = vwp P (.seq (.seq (.draw 5 [⟨some 46, .p (.mov (.t 0)), none⟩,
    ⟨some 47, .p (.mov (.t 6)), none⟩,
    ⟨some 48, .p (.idxA 1 (.t 46) (.t 47)), none⟩,
    ⟨some 49, .p (.load false 1 (.t 48)), none⟩,
    ⟨some 50, .p (.mov (.t 1)), none⟩,
    ⟨some 51, .p (.mov (.t 7)), none⟩,
    ⟨some 52, .p (.idxA 1 (.t 50) (.t 51)), none⟩,
    ⟨some 53, .p (.load false 1 (.t 52)), none⟩,
    ⟨some 54, .p (.bin 9 .eql (.t 49) (.t 53)), none⟩] [0, 1, 4, 5, 6, 7, 8, 54])
  (.cond (.t 54)
  c_diff_fill_b1
  (.skip)))
  (.ops [⟨some 62, .p (.fieldA 1 1 (.t 5)), none⟩,
    ⟨some 63, .p (.load false 1 (.t 62)), none⟩,
    ⟨some 64, .p (.mov (.t 6)), none⟩,
    ⟨some 65, .p (.fieldA 0 0 (.t 5)), none⟩,
    ⟨some 66, .p (.load false 1 (.t 65)), none⟩,
    ⟨some 67, .p (.bin 3 .mul (.t 64) (.t 66)), none⟩,
    ⟨some 68, .p (.mov (.t 7)), none⟩,
    ⟨some 69, .p (.bin 3 .add (.t 67) (.t 68)), none⟩,
    ⟨some 70, .p (.mov (.t 8)), none⟩,
    ⟨some 71, .p (.idxA 1 (.t 63) (.t 69)), none⟩,
    ⟨none, .s (.store 1 (.t 71) (.t 70)), none⟩] [0, 1, 4, 5, 6, 7])) Q e H := by_refl rfl
theorem u_diff_fill_k3_e {P : Program} {Q : VEx → Env → List Ob → Prop} {e : Env} {H : List Ob} : vwp P c_diff_fill_k3 Q e H = vwp P (.seq (.block 3 (.seq (.draw 9 [⟨some 35, .p (.load true 2 (.t 5)), none⟩,
    ⟨some 36, .p (.mov (.t 6)), none⟩,
    ⟨some 37, .p (.bin 3 .add (.t 36) (.c (.int .i64 ((1 : Nat) : Int)))), none⟩,
    ⟨some 38, .p (.mov (.t 7)), none⟩,
    ⟨some 39, .s (.call 115 [.t 35, .t 37, .t 38]), none⟩,
    ⟨some 40, .p (.load true 2 (.t 5)), none⟩,
    ⟨some 41, .p (.mov (.t 6)), none⟩,
    ⟨some 42, .p (.mov (.t 7)), none⟩,
    ⟨some 43, .p (.bin 3 .add (.t 42) (.c (.int .i64 ((1 : Nat) : Int)))), none⟩,
    ⟨some 44, .s (.call 115 [.t 40, .t 41, .t 43]), none⟩,
    ⟨some 45, .p (.max (.t 39) (.t 44)), none⟩,
    ⟨some 8, .p (.mov (.t 45)), none⟩] [0, 1, 4, 5, 6, 7, 8])
  c_diff_fill_k2))
  (.ops [⟨some 33, .p (.mov (.t 7)), none⟩,
    ⟨some 34, .p (.bin 3 .sub (.t 33) (.c (.int .i64 ((1 : Nat) : Int)))), none⟩,
    ⟨some 7, .p (.mov (.t 34)), none⟩] [0, 1, 4, 5, 6, 7])) Q e H := by_refl rfl
theorem u_diff_fill_L4_e {P : Program} {Q : VEx → Env → List Ob → Prop} {e : Env} {H : List Ob} : vwp P c_diff_fill_L4 Q e H = vwp P (.seq (.seq (.ops [⟨some 31, .p (.mov (.t 7)), none⟩,
    ⟨some 32, .p (.bin 3 .geq (.t 31) (.c (.int .i64 ((0 : Nat) : Int)))), none⟩] [0, 1, 4, 5, 6, 7, 32])
  (.cond (.t 32)
  (.skip)
  (.exit 2)))
  c_diff_fill_k3) Q e H := by_refl rfl
theorem u_diff_fill_k5_e {P : Program} {Q : VEx → Env → List Ob → Prop} {e : Env} {H : List Ob} : vwp P c_diff_fill_k5 Q e H = vwp P (.block 2 (.loop [0, 1, 4, 5, 6, 7] c_diff_fill_L4)) Q e H := by_refl rfl
theorem u_diff_fill_k6_e {P : Program} {Q : VEx → Env → List Ob → Prop} {e : Env} {H : List Ob} : vwp P c_diff_fill_k6 Q e H = vwp P (.ops [⟨some 26, .p (.mov (.t 6)), none⟩,
    ⟨some 27, .p (.bin 3 .sub (.t 26) (.c (.int .i64 ((1 : Nat) : Int)))), none⟩,
    ⟨some 6, .p (.mov (.t 27)), none⟩] [0, 1, 4, 5, 6]) Q e H := by_refl rfl
theorem u_diff_fill_k7_e {P : Program} {Q : VEx → Env → List Ob → Prop} {e : Env} {H : List Ob} : vwp P c_diff_fill_k7 Q e H = vwp P (.seq (.block 1 (.seq (.ops [⟨some 28, .p (.mov (.t 1)), none⟩,
    ⟨some 29, .p (.lenV (.t 28)), none⟩,
    ⟨some 30, .p (.bin 3 .sub (.t 29) (.c (.int .i64 ((1 : Nat) : Int)))), none⟩,
    ⟨some 7, .p (.mov (.t 30)), none⟩] [0, 1, 4, 5, 6, 7])
  c_diff_fill_k5))
  c_diff_fill_k6) Q e H := by_refl rfl
theorem u_diff_fill_L8_e {P : Program} {Q : VEx → Env → List Ob → Prop} {e : Env} {H : List Ob} : vwp P c_diff_fill_L8 Q e H = vwp P (.seq (.seq (.ops [⟨some 24, .p (.mov (.t 6)), none⟩,
    ⟨some 25, .p (.bin 3 .geq (.t 24) (.c (.int .i64 ((0 : Nat) : Int)))), none⟩] [0, 1, 4, 5, 6, 25])
  (.cond (.t 25)
  (.skip)
  (.exit 0)))
  c_diff_fill_k7) Q e H := by_refl rfl
theorem u_diff_fill_k9_e {P : Program} {Q : VEx → Env → List Ob → Prop} {e : Env} {H : List Ob} : vwp P c_diff_fill_k9 Q e H = vwp P (.block 0 (.loop [0, 1, 4, 5, 6] c_diff_fill_L8)) Q e H := by_refl rfl
theorem u_diff_fill_k10_e {P : Program} {Q : VEx → Env → List Ob → Prop} {e : Env} {H : List Ob} : vwp P c_diff_fill_k10 Q e H = vwp P (.seq (.ops [⟨some 72, .p (.load true 2 (.t 5)), none⟩,
    ⟨none, .s (.store 2 (.t 4) (.t 72)), none⟩] [4])
  (.ret)) Q e H := by_refl rfl
theorem u_diff_fill_k11_e {P : Program} {Q : VEx → Env → List Ob → Prop} {e : Env} {H : List Ob} : vwp P c_diff_fill_k11 Q e H = vwp P (.seq (.seq (.ops [⟨some 21, .p (.mov (.t 0)), none⟩,
    ⟨some 22, .p (.lenV (.t 21)), none⟩,
    ⟨some 23, .p (.bin 3 .sub (.t 22) (.c (.int .i64 ((1 : Nat) : Int)))), none⟩,
    ⟨some 6, .p (.mov (.t 23)), none⟩] [0, 1, 4, 5, 6])
  c_diff_fill_k9)
  c_diff_fill_k10) Q e H := by_refl rfl
theorem u_diff_fill_k12_e {P : Program} {Q : VEx → Env → List Ob → Prop} {e : Env} {H : List Ob} : vwp P c_diff_fill_k12 Q e H = vwp P (.seq (.ops [⟨some 9, .p (.mov (.t 1)), none⟩,
    ⟨some 10, .p (.lenV (.t 9)), none⟩,
    ⟨some 11, .p (.bin 3 .add (.t 10) (.c (.int .i64 ((1 : Nat) : Int)))), none⟩,
    ⟨some 12, .p (.mov (.t 0)), none⟩,
    ⟨some 13, .p (.lenV (.t 12)), none⟩,
    ⟨some 14, .p (.bin 3 .add (.t 13) (.c (.int .i64 ((1 : Nat) : Int)))), none⟩,
    ⟨some 15, .p (.mov (.t 1)), none⟩,
    ⟨some 16, .p (.lenV (.t 15)), none⟩,
    ⟨some 17, .p (.bin 3 .add (.t 16) (.c (.int .i64 ((1 : Nat) : Int)))), none⟩,
    ⟨some 18, .p (.bin 3 .mul (.t 14) (.t 17)), none⟩,
    ⟨some 19, .s (.mks 1 4 (.val (.int .i32 ((0 : Nat) : Int))) (.t 18) (.t 18)), none⟩,
    ⟨some 20, .p (.build [.val (.int .i64 ((0 : Nat) : Int)), .val (.slice none 0 0)] [1, 1] [⟨0, .t 11⟩, ⟨1, .t 19⟩]), none⟩,
    ⟨some 5, .s (.alloc (.agg [.val (.int .i64 ((0 : Nat) : Int)), .val (.slice none 0 0)])), none⟩,
    ⟨none, .s (.store 2 (.t 5) (.t 20)), none⟩] [0, 1, 4, 5])
  c_diff_fill_k11) Q e H := by_refl rfl
theorem u_diff_fill_e {P : Program} {Q : VEx → Env → List Ob → Prop} {e : Env} {H : List Ob} : vwp P c_diff_fill Q e H = vwp P (.seq (.ops [⟨some 4, .s (.alloc (.agg [.val (.int .i64 ((0 : Nat) : Int)), .val (.slice none 0 0)])), none⟩] [0, 1, 4])
  c_diff_fill_k12) Q e H := by_refl rfl
theorem u_diff_fill_r {K : TV → Prop} {e : Env} {H : List Ob} : res r_diff_fill e H K = res [.cell 4 true 2] e H K := by_refl rfl
def u_diff_fill := (And.intro (And.intro (And.intro (And.intro @u_diff_fill_b1_e @u_diff_fill_k2_e) (And.intro @u_diff_fill_k3_e @u_diff_fill_L4_e)) (And.intro (And.intro @u_diff_fill_k5_e @u_diff_fill_k6_e) (And.intro @u_diff_fill_k7_e @u_diff_fill_L8_e))) (And.intro (And.intro (And.intro @u_diff_fill_k9_e @u_diff_fill_k10_e) (And.intro @u_diff_fill_k11_e @u_diff_fill_k12_e)) (And.intro @u_diff_fill_e @u_diff_fill_r)))
theorem go_diff_fill {args : List TV} {H : List Ob} {R : TV → List Ob → Prop} (hn : args.length ≤ 73) (h : vwp Tryd.prog c_diff_fill (atEnd r_diff_fill R) (argsE 0 args) H) : VCalls Tryd.prog 114 args H R := vcalls_of Tryd.func114 t_diff_fill w_diff_fill hn h

/-! (gitlike/diff.table).at -/
def c_diff_table_at : VCode := .seq (.ops [⟨some 3, .s (.box (.t 0)), none⟩,
    ⟨some 6, .p (.mov (.c (.int .i32 ((0 : Nat) : Int)))), none⟩] [1, 2, 3])
  (.seq (.ops [⟨some 7, .p (.fieldA 1 1 (.t 3)), none⟩,
    ⟨some 8, .p (.load false 1 (.t 7)), none⟩,
    ⟨some 9, .p (.mov (.t 1)), none⟩,
    ⟨some 10, .p (.fieldA 0 0 (.t 3)), none⟩,
    ⟨some 11, .p (.load false 1 (.t 10)), none⟩,
    ⟨some 12, .p (.bin 3 .mul (.t 9) (.t 11)), none⟩,
    ⟨some 13, .p (.mov (.t 2)), none⟩,
    ⟨some 14, .p (.bin 3 .add (.t 12) (.t 13)), none⟩,
    ⟨some 15, .p (.idxA 1 (.t 8) (.t 14)), none⟩,
    ⟨some 16, .p (.load false 1 (.t 15)), none⟩,
    ⟨some 6, .p (.mov (.t 16)), none⟩] [6])
  (.ret))
def r_diff_table_at : List VR := [.tmp 6]
theorem t_diff_table_at : Tryd.f115.body.bind (trC Tryd.prog Tryd.f115.ntmps) = some (er c_diff_table_at) := by kernel_rfl
theorem w_diff_table_at : trR Tryd.prog Tryd.f115.results.toList = some r_diff_table_at := by kernel_rfl
theorem u_diff_table_at_e {P : Program} {Q : VEx → Env → List Ob → Prop} {e : Env} {H : List Ob} : vwp P c_diff_table_at Q e H = vwp P (.seq (.ops [⟨some 3, .s (.box (.t 0)), none⟩,
    ⟨some 6, .p (.mov (.c (.int .i32 ((0 : Nat) : Int)))), none⟩] [1, 2, 3])
  (.seq (.ops [⟨some 7, .p (.fieldA 1 1 (.t 3)), none⟩,
    ⟨some 8, .p (.load false 1 (.t 7)), none⟩,
    ⟨some 9, .p (.mov (.t 1)), none⟩,
    ⟨some 10, .p (.fieldA 0 0 (.t 3)), none⟩,
    ⟨some 11, .p (.load false 1 (.t 10)), none⟩,
    ⟨some 12, .p (.bin 3 .mul (.t 9) (.t 11)), none⟩,
    ⟨some 13, .p (.mov (.t 2)), none⟩,
    ⟨some 14, .p (.bin 3 .add (.t 12) (.t 13)), none⟩,
    ⟨some 15, .p (.idxA 1 (.t 8) (.t 14)), none⟩,
    ⟨some 16, .p (.load false 1 (.t 15)), none⟩,
    ⟨some 6, .p (.mov (.t 16)), none⟩] [6])
  (.ret))) Q e H := by_refl rfl
theorem u_diff_table_at_r {K : TV → Prop} {e : Env} {H : List Ob} : res r_diff_table_at e H K = res [.tmp 6] e H K := by_refl rfl
def u_diff_table_at := (And.intro @u_diff_table_at_e @u_diff_table_at_r)
theorem go_diff_table_at {args : List TV} {H : List Ob} {R : TV → List Ob → Prop} (hn : args.length ≤ 17) (h : vwp Tryd.prog c_diff_table_at (atEnd r_diff_table_at R) (argsE 0 args) H) : VCalls Tryd.prog 115 args H R := vcalls_of Tryd.func115 t_diff_table_at w_diff_table_at hn h

/-! gitlike/gitlikeref10.Lines -/
def c_ref10_Lines_b1 : VCode := .seq (.ops [⟨some 24, .p (.mov (.t 3)), none⟩,
    ⟨some 25, .p (.mov (.t 0)), none⟩,
    ⟨some 26, .p (.mov (.t 4)), none⟩,
    ⟨some 27, .p (.mov (.t 5)), none⟩,
    ⟨some 28, .p (.bin 3 .add (.t 27) (.c (.int .i64 ((1 : Nat) : Int)))), none⟩,
    ⟨some 29, .p (.slV 1 (.t 25) (some (.t 26)) (some (.t 28))), none⟩,
    ⟨some 30, .p (.b2s (.t 29)), none⟩,
    ⟨some 31, .s (.bslice 1 1 (.val (.string (str []))) [⟨0, .t 30⟩]), none⟩,
    ⟨some 32, .s (.app 1 16 9 (.t 24) (.t 31)), none⟩,
    ⟨some 3, .p (.mov (.t 32)), none⟩] [0, 3, 5])
  (.ops [⟨some 33, .p (.mov (.t 5)), none⟩,
    ⟨some 34, .p (.bin 3 .add (.t 33) (.c (.int .i64 ((1 : Nat) : Int)))), none⟩,
    ⟨some 4, .p (.mov (.t 34)), none⟩] [0, 3, 4, 5])
def c_ref10_Lines_k2 : VCode := .cond (.t 23)
  c_ref10_Lines_b1
  (.skip)
def c_ref10_Lines_k3 : VCode := .seq (.block 1 (.seq (.ops [⟨some 12, .p (.mov (.t 0)), none⟩,
    ⟨some 13, .p (.mov (.t 5)), none⟩,
    ⟨some 14, .p (.idxA 1 (.t 12) (.t 13)), none⟩,
    ⟨some 15, .p (.load false 1 (.t 14)), none⟩,
    ⟨some 16, .p (.bin 5 .eql (.t 15) (.c (.int .u8 ((10 : Nat) : Int)))), none⟩,
    ⟨some 17, .p (.mov (.t 16)), none⟩,
    ⟨some 18, .p (.mov (.t 5)), some ⟨17, false⟩⟩,
    ⟨some 19, .p (.bin 3 .add (.t 18) (.c (.int .i64 ((1 : Nat) : Int)))), some ⟨17, false⟩⟩,
    ⟨some 20, .p (.mov (.t 0)), some ⟨17, false⟩⟩,
    ⟨some 21, .p (.lenV (.t 20)), some ⟨17, false⟩⟩,
    ⟨some 22, .p (.bin 3 .eql (.t 19) (.t 21)), some ⟨17, false⟩⟩,
    ⟨some 23, .p (.pick (.t 17) (.c (.bool true)) (.t 22)), none⟩] [0, 3, 4, 5, 23])
  c_ref10_Lines_k2))
  (.ops [⟨some 10, .p (.mov (.t 5)), none⟩,
    ⟨some 11, .p (.bin 3 .add (.t 10) (.c (.int .i64 ((1 : Nat) : Int)))), none⟩,
    ⟨some 5, .p (.mov (.t 11)), none⟩] [0, 3, 4, 5])
def c_ref10_Lines_L4 : VCode := .seq (.seq (.ops [⟨some 6, .p (.mov (.t 5)), none⟩,
    ⟨some 7, .p (.mov (.t 0)), none⟩,
    ⟨some 8, .p (.lenV (.t 7)), none⟩,
    ⟨some 9, .p (.bin 3 .lss (.t 6) (.t 8)), none⟩] [0, 3, 4, 5, 9])
  (.cond (.t 9)
  (.skip)
  (.exit 0)))
  c_ref10_Lines_k3
def c_ref10_Lines_k5 : VCode := .block 0 (.own 3 1 (.loop [0, 3, 4, 5] c_ref10_Lines_L4))
def c_ref10_Lines_k6 : VCode := .seq (.ops [⟨some 35, .p (.mov (.t 3)), none⟩,
    ⟨some 2, .p (.mov (.t 35)), none⟩] [2])
  (.ret)
def c_ref10_Lines_k7 : VCode := .seq (.seq (.ops [⟨some 5, .p (.mov (.c (.int .i64 ((0 : Nat) : Int)))), none⟩] [0, 3, 4, 5])
  c_ref10_Lines_k5)
  c_ref10_Lines_k6
def c_ref10_Lines_k8 : VCode := .seq (.ops [⟨some 4, .p (.mov (.c (.int .i64 ((0 : Nat) : Int)))), none⟩] [0, 3, 4])
  c_ref10_Lines_k7
def c_ref10_Lines_k9 : VCode := .seq (.ops [⟨some 3, .p (.mov (.c (.slice none 0 0))), none⟩] [0, 3])
  c_ref10_Lines_k8
def c_ref10_Lines : VCode := .seq (.ops [⟨some 2, .p (.mov (.c (.slice none 0 0))), none⟩] [0])
  c_ref10_Lines_k9
def r_ref10_Lines : List VR := [.tmp 2]
theorem t_ref10_Lines : Tryd.f118.body.bind (trC Tryd.prog Tryd.f118.ntmps) = some (er c_ref10_Lines) := by kernel_rfl
theorem w_ref10_Lines : trR Tryd.prog Tryd.f118.results.toList = some r_ref10_Lines := by kernel_rfl
theorem u_ref10_Lines_b1_e {P : Program} {Q : VEx → Env → List Ob → Prop} {e : Env} {H : List Ob} : vwp P c_ref10_Lines_b1 Q e H = vwp P (.seq (.ops [⟨some 24, .p (.mov (.t 3)), none⟩,
    ⟨some 25, .p (.mov (.t 0)), none⟩,
    ⟨some 26, .p (.mov (.t 4)), none⟩,
    ⟨some 27, .p (.mov (.t 5)), none⟩,
    ⟨some 28, .p (.bin 3 .add (.t 27) (.c (.int .i64 ((1 : Nat) : Int)))), none⟩,
    ⟨some 29, .p (.slV 1 (.t 25) (some (.t 26)) (some (.t 28))), none⟩,
    ⟨some 30, .p (.b2s (.t 29)), none⟩,
    ⟨some 31, .s (.bslice 1 1 (.val (.string (str []))) [⟨0, .t 30⟩]), none⟩,
    ⟨some 32, .s (.app 1 16 9 (.t 24) (.t 31)), none⟩,
    ⟨some 3, .p (.mov (.t 32)), none⟩] [0, 3, 5])
  (.ops [⟨some 33, .p (.mov (.t 5)), none⟩,
    ⟨some 34, .p (.bin 3 .add (.t 33) (.c (.int .i64 ((1 : Nat) : Int)))), none⟩,
    ⟨some 4, .p (.mov (.t 34)), none⟩] [0, 3, 4, 5])) Q e H := by_refl rfl
theorem u_ref10_Lines_k2_e {P : Program} {Q : VEx → Env → List Ob → Prop} {e : Env} {H : List Ob} : vwp P c_ref10_Lines_k2 Q e H = vwp P (.cond (.t 23)
  c_ref10_Lines_b1
  (.skip)) Q e H := by_refl rfl
theorem u_ref10_Lines_k3_e {P : Program} {Q : VEx → Env → List Ob → Prop} {e : Env} {H : List Ob} : vwp P c_ref10_Lines_k3 Q e H = vwp P (.seq (.block 1 (.seq (.ops [⟨some 12, .p (.mov (.t 0)), none⟩,
    ⟨some 13, .p (.mov (.t 5)), none⟩,
    ⟨some 14, .p (.idxA 1 (.t 12) (.t 13)), none⟩,
    ⟨some 15, .p (.load false 1 (.t 14)), none⟩,
    ⟨some 16, .p (.bin 5 .eql (.t 15) (.c (.int .u8 ((10 : Nat) : Int)))), none⟩,
    ⟨some 17, .p (.mov (.t 16)), none⟩,
    ⟨some 18, .p (.mov (.t 5)), some ⟨17, false⟩⟩,
    ⟨some 19, .p (.bin 3 .add (.t 18) (.c (.int .i64 ((1 : Nat) : Int)))), some ⟨17, false⟩⟩,
    ⟨some 20, .p (.mov (.t 0)), some ⟨17, false⟩⟩,
    ⟨some 21, .p (.lenV (.t 20)), some ⟨17, false⟩⟩,
    ⟨some 22, .p (.bin 3 .eql (.t 19) (.t 21)), some ⟨17, false⟩⟩,
    ⟨some 23, .p (.pick (.t 17) (.c (.bool true)) (.t 22)), none⟩] [0, 3, 4, 5, 23])
  c_ref10_Lines_k2))
  (.ops [⟨some 10, .p (.mov (.t 5)), none⟩,
    ⟨some 11, .p (.bin 3 .add (.t 10) (.c (.int .i64 ((1 : Nat) : Int)))), none⟩,
    ⟨some 5, .p (.mov (.t 11)), none⟩] [0, 3, 4, 5])) Q e H := by_refl rfl
theorem u_ref10_Lines_L4_e {P : Program} {Q : VEx → Env → List Ob → Prop} {e : Env} {H : List Ob} : vwp P c_ref10_Lines_L4 Q e H = vwp P (.seq (.seq (.ops [⟨some 6, .p (.mov (.t 5)), none⟩,
    ⟨some 7, .p (.mov (.t 0)), none⟩,
    ⟨some 8, .p (.lenV (.t 7)), none⟩,
    ⟨some 9, .p (.bin 3 .lss (.t 6) (.t 8)), none⟩] [0, 3, 4, 5, 9])
  (.cond (.t 9)
  (.skip)
  (.exit 0)))
  c_ref10_Lines_k3) Q e H := by_refl rfl
theorem u_ref10_Lines_k5_e {P : Program} {Q : VEx → Env → List Ob → Prop} {e : Env} {H : List Ob} : vwp P c_ref10_Lines_k5 Q e H = vwp P (.block 0 (.own 3 1 (.loop [0, 3, 4, 5] c_ref10_Lines_L4))) Q e H := by_refl rfl
theorem u_ref10_Lines_k6_e {P : Program} {Q : VEx → Env → List Ob → Prop} {e : Env} {H : List Ob} : vwp P c_ref10_Lines_k6 Q e H = vwp P (.seq (.ops [⟨some 35, .p (.mov (.t 3)), none⟩,
    ⟨some 2, .p (.mov (.t 35)), none⟩] [2])
  (.ret)) Q e H := by_refl rfl
theorem u_ref10_Lines_k7_e {P : Program} {Q : VEx → Env → List Ob → Prop} {e : Env} {H : List Ob} : vwp P c_ref10_Lines_k7 Q e H = vwp P (.seq (.seq (.ops [⟨some 5, .p (.mov (.c (.int .i64 ((0 : Nat) : Int)))), none⟩] [0, 3, 4, 5])
  c_ref10_Lines_k5)
  c_ref10_Lines_k6) Q e H := by_refl rfl
theorem u_ref10_Lines_k8_e {P : Program} {Q : VEx → Env → List Ob → Prop} {e : Env} {H : List Ob} : vwp P c_ref10_Lines_k8 Q e H = vwp P (.seq (.ops [⟨some 4, .p (.mov (.c (.int .i64 ((0 : Nat) : Int)))), none⟩] [0, 3, 4])
  c_ref10_Lines_k7) Q e H := by_refl rfl
theorem u_ref10_Lines_k9_e {P : Program} {Q : VEx → Env → List Ob → Prop} {e : Env} {H : List Ob} : vwp P c_ref10_Lines_k9 Q e H = vwp P (.seq (.ops [⟨some 3, .p (.mov (.c (.slice none 0 0))), none⟩] [0, 3])
  c_ref10_Lines_k8) Q e H := by_refl rfl
theorem u_ref10_Lines_e {P : Program} {Q : VEx → Env → List Ob → Prop} {e : Env} {H : List Ob} : vwp P c_ref10_Lines Q e H = vwp P (.seq (.ops [⟨some 2, .p (.mov (.c (.slice none 0 0))), none⟩] [0])
  c_ref10_Lines_k9) Q e H := by_refl rfl
theorem u_ref10_Lines_r {K : TV → Prop} {e : Env} {H : List Ob} : res r_ref10_Lines e H K = res [.tmp 2] e H K := by_refl rfl
def u_ref10_Lines := (And.intro (And.intro (And.intro (And.intro @u_ref10_Lines_b1_e @u_ref10_Lines_k2_e) (And.intro @u_ref10_Lines_k3_e @u_ref10_Lines_L4_e)) (And.intro (And.intro @u_ref10_Lines_k5_e @u_ref10_Lines_k6_e) (And.intro @u_ref10_Lines_k7_e @u_ref10_Lines_k8_e))) (And.intro (And.intro @u_ref10_Lines_k9_e @u_ref10_Lines_e) @u_ref10_Lines_r))
theorem go_ref10_Lines {args : List TV} {H : List Ob} {R : TV → List Ob → Prop} (hn : args.length ≤ 36) (h : vwp Tryd.prog c_ref10_Lines (atEnd r_ref10_Lines R) (argsE 0 args) H) : VCalls Tryd.prog 118 args H R := vcalls_of Tryd.func118 t_ref10_Lines w_ref10_Lines hn h

/-! gitlike/gitlikeref10.Edits -/
def c_ref10_Edits_L1 : VCode := .seq (.seq (.draw 19 [⟨some 29, .p (.mov (.t 8)), none⟩,
    ⟨some 30, .p (.mov (.t 5)), none⟩,
    ⟨some 31, .p (.lenV (.t 30)), none⟩,
    ⟨some 32, .p (.bin 3 .lss (.t 29) (.t 31)), none⟩,
    ⟨some 33, .p (.mov (.t 32)), none⟩,
    ⟨some 34, .p (.mov (.t 8)), some ⟨33, true⟩⟩,
    ⟨some 35, .p (.mov (.t 6)), some ⟨33, true⟩⟩,
    ⟨some 36, .p (.lenV (.t 35)), some ⟨33, true⟩⟩,
    ⟨some 37, .p (.bin 3 .lss (.t 34) (.t 36)), some ⟨33, true⟩⟩,
    ⟨some 38, .p (.pick (.t 33) (.t 37) (.c (.bool false))), none⟩,
    ⟨some 39, .p (.mov (.t 38)), none⟩,
    ⟨some 40, .p (.mov (.t 5)), some ⟨39, true⟩⟩,
    ⟨some 41, .p (.mov (.t 8)), some ⟨39, true⟩⟩,
    ⟨some 42, .p (.idxA 1 (.t 40) (.t 41)), some ⟨39, true⟩⟩,
    ⟨some 43, .p (.load false 1 (.t 42)), some ⟨39, true⟩⟩,
    ⟨some 44, .p (.mov (.t 6)), some ⟨39, true⟩⟩,
    ⟨some 45, .p (.mov (.t 8)), some ⟨39, true⟩⟩,
    ⟨some 46, .p (.idxA 1 (.t 44) (.t 45)), some ⟨39, true⟩⟩,
    ⟨some 47, .p (.load false 1 (.t 46)), some ⟨39, true⟩⟩,
    ⟨some 48, .p (.bin 9 .eql (.t 43) (.t 47)), some ⟨39, true⟩⟩,
    ⟨some 49, .p (.pick (.t 39) (.t 48) (.c (.bool false))), none⟩] [5, 6, 7, 8, 49])
  (.cond (.t 49)
  (.skip)
  (.exit 0)))
  (.block 1 (.seq (.ops [⟨some 50, .p (.mov (.t 7)), none⟩,
    ⟨some 51, .p (.mov (.t 5)), none⟩,
    ⟨some 52, .p (.mov (.t 8)), none⟩,
    ⟨some 53, .p (.idxA 1 (.t 51) (.t 52)), none⟩,
    ⟨some 54, .p (.load false 1 (.t 53)), none⟩,
    ⟨some 55, .p (.build [.val (.int .i64 ((0 : Nat) : Int)), .val (.string (str []))] [1, 1] [⟨0, .c (.int .i64 ((0 : Nat) : Int))⟩, ⟨1, .t 54⟩]), none⟩,
    ⟨some 56, .s (.bslice 2 1 (.agg [.val (.int .i64 ((0 : Nat) : Int)), .val (.string (str []))]) [⟨0, .t 55⟩]), none⟩,
    ⟨some 57, .s (.app 2 24 103 (.t 50) (.t 56)), none⟩,
    ⟨some 7, .p (.mov (.t 57)), none⟩] [5, 6, 7, 8])
  (.ops [⟨some 58, .p (.mov (.t 8)), none⟩,
    ⟨some 59, .p (.bin 3 .add (.t 58) (.c (.int .i64 ((1 : Nat) : Int)))), none⟩,
    ⟨some 8, .p (.mov (.t 59)), none⟩] [5, 6, 7, 8])))
def c_ref10_Edits_L2 : VCode := .seq (.seq (.ops [⟨some 61, .p (.mov (.t 10)), none⟩,
    ⟨some 62, .p (.mov (.t 5)), none⟩,
    ⟨some 63, .p (.lenV (.t 62)), none⟩,
    ⟨some 64, .p (.bin 3 .lss (.t 61) (.t 63)), none⟩] [5, 6, 7, 8, 10, 64])
  (.cond (.t 64)
  (.skip)
  (.exit 2)))
  (.seq (.block 3 (.ops [⟨some 67, .p (.mov (.t 7)), none⟩,
    ⟨some 68, .p (.mov (.t 5)), none⟩,
    ⟨some 69, .p (.mov (.t 10)), none⟩,
    ⟨some 70, .p (.idxA 1 (.t 68) (.t 69)), none⟩,
    ⟨some 71, .p (.load false 1 (.t 70)), none⟩,
    ⟨some 72, .p (.build [.val (.int .i64 ((0 : Nat) : Int)), .val (.string (str []))] [1, 1] [⟨0, .c (.int .i64 ((1 : Nat) : Int))⟩, ⟨1, .t 71⟩]), none⟩,
    ⟨some 73, .s (.bslice 2 1 (.agg [.val (.int .i64 ((0 : Nat) : Int)), .val (.string (str []))]) [⟨0, .t 72⟩]), none⟩,
    ⟨some 74, .s (.app 2 24 103 (.t 67) (.t 73)), none⟩,
    ⟨some 7, .p (.mov (.t 74)), none⟩] [5, 6, 7, 8, 10]))
  (.ops [⟨some 65, .p (.mov (.t 10)), none⟩,
    ⟨some 66, .p (.bin 3 .add (.t 65) (.c (.int .i64 ((1 : Nat) : Int)))), none⟩,
    ⟨some 10, .p (.mov (.t 66)), none⟩] [5, 6, 7, 8, 10]))
def c_ref10_Edits_k3 : VCode := .block 2 (.own 7 2 (.loop [5, 6, 7, 8, 10] c_ref10_Edits_L2))
def c_ref10_Edits_L4 : VCode := .seq (.seq (.ops [⟨some 76, .p (.mov (.t 11)), none⟩,
    ⟨some 77, .p (.mov (.t 6)), none⟩,
    ⟨some 78, .p (.lenV (.t 77)), none⟩,
    ⟨some 79, .p (.bin 3 .lss (.t 76) (.t 78)), none⟩] [6, 7, 11, 79])
  (.cond (.t 79)
  (.skip)
  (.exit 4)))
  (.seq (.block 5 (.ops [⟨some 82, .p (.mov (.t 7)), none⟩,
    ⟨some 83, .p (.mov (.t 6)), none⟩,
    ⟨some 84, .p (.mov (.t 11)), none⟩,
    ⟨some 85, .p (.idxA 1 (.t 83) (.t 84)), none⟩,
    ⟨some 86, .p (.load false 1 (.t 85)), none⟩,
    ⟨some 87, .p (.build [.val (.int .i64 ((0 : Nat) : Int)), .val (.string (str []))] [1, 1] [⟨0, .c (.int .i64 ((2 : Nat) : Int))⟩, ⟨1, .t 86⟩]), none⟩,
    ⟨some 88, .s (.bslice 2 1 (.agg [.val (.int .i64 ((0 : Nat) : Int)), .val (.string (str []))]) [⟨0, .t 87⟩]), none⟩,
    ⟨some 89, .s (.app 2 24 103 (.t 82) (.t 88)), none⟩,
    ⟨some 7, .p (.mov (.t 89)), none⟩] [6, 7, 11]))
  (.ops [⟨some 80, .p (.mov (.t 11)), none⟩,
    ⟨some 81, .p (.bin 3 .add (.t 80) (.c (.int .i64 ((1 : Nat) : Int)))), none⟩,
    ⟨some 11, .p (.mov (.t 81)), none⟩] [6, 7, 11]))
def c_ref10_Edits_k5 : VCode := .block 4 (.own 7 2 (.loop [6, 7, 11] c_ref10_Edits_L4))
def c_ref10_Edits_k6 : VCode := .seq (.ops [⟨some 90, .p (.mov (.t 7)), none⟩,
    ⟨some 4, .p (.mov (.t 90)), none⟩] [4])
  (.ret)
def c_ref10_Edits_k7 : VCode := .seq (.seq (.ops [⟨some 75, .p (.mov (.t 8)), none⟩,
    ⟨some 11, .p (.mov (.t 75)), none⟩] [6, 7, 11])
  c_ref10_Edits_k5)
  c_ref10_Edits_k6
def c_ref10_Edits_k8 : VCode := .seq (.seq (.ops [⟨some 60, .p (.mov (.t 8)), none⟩,
    ⟨some 10, .p (.mov (.t 60)), none⟩] [5, 6, 7, 8, 10])
  c_ref10_Edits_k3)
  c_ref10_Edits_k7
def c_ref10_Edits_b9 : VCode := .seq (.block 0 (.own 7 2 (.loop [5, 6, 7, 8] c_ref10_Edits_L1)))
  c_ref10_Edits_k8
def c_ref10_Edits_k10 : VCode := .cond (.t 28)
  c_ref10_Edits_b9
  (.skip)
def c_ref10_Edits_b11 : VCode := .ops [⟨some 134, .p (.mov (.t 13)), none⟩,
    ⟨some 135, .p (.mov (.t 14)), none⟩,
    ⟨some 136, .p (.mov (.t 12)), none⟩,
    ⟨some 137, .p (.bin 3 .mul (.t 135) (.t 136)), none⟩,
    ⟨some 138, .p (.mov (.t 15)), none⟩,
    ⟨some 139, .p (.bin 3 .add (.t 137) (.t 138)), none⟩,
    ⟨some 140, .p (.bin 3 .add (.t 139) (.c (.int .i64 ((1 : Nat) : Int)))), none⟩,
    ⟨some 141, .p (.idxA 1 (.t 134) (.t 140)), none⟩,
    ⟨some 142, .p (.load false 1 (.t 141)), none⟩,
    ⟨some 16, .p (.mov (.t 142)), none⟩] [5, 6, 7, 8, 9, 12, 13, 14, 15, 16]
def c_ref10_Edits_b12 : VCode := .ops [⟨some 152, .p (.mov (.t 13)), none⟩,
    ⟨some 153, .p (.mov (.t 14)), none⟩,
    ⟨some 154, .p (.bin 3 .add (.t 153) (.c (.int .i64 ((1 : Nat) : Int)))), none⟩,
    ⟨some 155, .p (.mov (.t 12)), none⟩,
    ⟨some 156, .p (.bin 3 .mul (.t 154) (.t 155)), none⟩,
    ⟨some 157, .p (.mov (.t 15)), none⟩,
    ⟨some 158, .p (.bin 3 .add (.t 156) (.t 157)), none⟩,
    ⟨some 159, .p (.bin 3 .add (.t 158) (.c (.int .i64 ((1 : Nat) : Int)))), none⟩,
    ⟨some 160, .p (.idxA 1 (.t 152) (.t 159)), none⟩,
    ⟨some 161, .p (.load false 1 (.t 160)), none⟩,
    ⟨some 162, .p (.bin 3 .add (.t 161) (.c (.int .i64 ((1 : Nat) : Int)))), none⟩,
    ⟨some 16, .p (.mov (.t 162)), none⟩] [5, 6, 7, 8, 9, 12, 13, 14, 15, 16]
def c_ref10_Edits_k13 : VCode := .seq (.seq (.draw 5 [⟨some 143, .p (.mov (.t 5)), none⟩,
    ⟨some 144, .p (.mov (.t 14)), none⟩,
    ⟨some 145, .p (.idxA 1 (.t 143) (.t 144)), none⟩,
    ⟨some 146, .p (.load false 1 (.t 145)), none⟩,
    ⟨some 147, .p (.mov (.t 6)), none⟩,
    ⟨some 148, .p (.mov (.t 15)), none⟩,
    ⟨some 149, .p (.idxA 1 (.t 147) (.t 148)), none⟩,
    ⟨some 150, .p (.load false 1 (.t 149)), none⟩,
    ⟨some 151, .p (.bin 9 .eql (.t 146) (.t 150)), none⟩] [5, 6, 7, 8, 9, 12, 13, 14, 15, 16, 151])
  (.cond (.t 151)
  c_ref10_Edits_b12
  (.skip)))
  (.ops [⟨some 163, .p (.mov (.t 13)), none⟩,
    ⟨some 164, .p (.mov (.t 14)), none⟩,
    ⟨some 165, .p (.mov (.t 12)), none⟩,
    ⟨some 166, .p (.bin 3 .mul (.t 164) (.t 165)), none⟩,
    ⟨some 167, .p (.mov (.t 15)), none⟩,
    ⟨some 168, .p (.bin 3 .add (.t 166) (.t 167)), none⟩,
    ⟨some 169, .p (.mov (.t 16)), none⟩,
    ⟨some 170, .p (.idxA 1 (.t 163) (.t 168)), none⟩,
    ⟨none, .s (.store 1 (.t 170) (.t 169)), none⟩] [5, 6, 7, 8, 9, 12, 13, 14, 15])
def c_ref10_Edits_k14 : VCode := .seq (.seq (.ops [⟨some 123, .p (.mov (.t 13)), none⟩,
    ⟨some 124, .p (.mov (.t 14)), none⟩,
    ⟨some 125, .p (.mov (.t 12)), none⟩,
    ⟨some 126, .p (.bin 3 .mul (.t 124) (.t 125)), none⟩,
    ⟨some 127, .p (.mov (.t 15)), none⟩,
    ⟨some 128, .p (.bin 3 .add (.t 126) (.t 127)), none⟩,
    ⟨some 129, .p (.bin 3 .add (.t 128) (.c (.int .i64 ((1 : Nat) : Int)))), none⟩,
    ⟨some 130, .p (.idxA 1 (.t 123) (.t 129)), none⟩,
    ⟨some 131, .p (.load false 1 (.t 130)), none⟩,
    ⟨some 132, .p (.mov (.t 16)), none⟩,
    ⟨some 133, .p (.bin 3 .gtr (.t 131) (.t 132)), none⟩] [5, 6, 7, 8, 9, 12, 13, 14, 15, 16, 133])
  (.cond (.t 133)
  c_ref10_Edits_b11
  (.skip)))
  c_ref10_Edits_k13
def c_ref10_Edits_k15 : VCode := .seq (.block 9 (.seq (.ops [⟨some 114, .p (.mov (.t 13)), none⟩,
    ⟨some 115, .p (.mov (.t 14)), none⟩,
    ⟨some 116, .p (.bin 3 .add (.t 115) (.c (.int .i64 ((1 : Nat) : Int)))), none⟩,
    ⟨some 117, .p (.mov (.t 12)), none⟩,
    ⟨some 118, .p (.bin 3 .mul (.t 116) (.t 117)), none⟩,
    ⟨some 119, .p (.mov (.t 15)), none⟩,
    ⟨some 120, .p (.bin 3 .add (.t 118) (.t 119)), none⟩,
    ⟨some 121, .p (.idxA 1 (.t 114) (.t 120)), none⟩,
    ⟨some 122, .p (.load false 1 (.t 121)), none⟩,
    ⟨some 16, .p (.mov (.t 122)), none⟩] [5, 6, 7, 8, 9, 12, 13, 14, 15, 16])
  c_ref10_Edits_k14))
  (.ops [⟨some 112, .p (.mov (.t 15)), none⟩,
    ⟨some 113, .p (.bin 3 .sub (.t 112) (.c (.int .i64 ((1 : Nat) : Int)))), none⟩,
    ⟨some 15, .p (.mov (.t 113)), none⟩] [5, 6, 7, 8, 9, 12, 13, 14, 15])
def c_ref10_Edits_L16 : VCode := .seq (.seq (.ops [⟨some 110, .p (.mov (.t 15)), none⟩,
    ⟨some 111, .p (.bin 3 .geq (.t 110) (.c (.int .i64 ((0 : Nat) : Int)))), none⟩] [5, 6, 7, 8, 9, 12, 13, 14, 15, 111])
  (.cond (.t 111)
  (.skip)
  (.exit 8)))
  c_ref10_Edits_k15
def c_ref10_Edits_k17 : VCode := .block 8 (.loop [5, 6, 7, 8, 9, 12, 13, 14, 15] c_ref10_Edits_L16)
def c_ref10_Edits_k18 : VCode := .ops [⟨some 105, .p (.mov (.t 14)), none⟩,
    ⟨some 106, .p (.bin 3 .sub (.t 105) (.c (.int .i64 ((1 : Nat) : Int)))), none⟩,
    ⟨some 14, .p (.mov (.t 106)), none⟩] [5, 6, 7, 8, 9, 12, 13, 14]
def c_ref10_Edits_k19 : VCode := .seq (.block 7 (.seq (.ops [⟨some 107, .p (.mov (.t 6)), none⟩,
    ⟨some 108, .p (.lenV (.t 107)), none⟩,
    ⟨some 109, .p (.bin 3 .sub (.t 108) (.c (.int .i64 ((1 : Nat) : Int)))), none⟩,
    ⟨some 15, .p (.mov (.t 109)), none⟩] [5, 6, 7, 8, 9, 12, 13, 14, 15])
  c_ref10_Edits_k17))
  c_ref10_Edits_k18
def c_ref10_Edits_L20 : VCode := .seq (.seq (.ops [⟨some 103, .p (.mov (.t 14)), none⟩,
    ⟨some 104, .p (.bin 3 .geq (.t 103) (.c (.int .i64 ((0 : Nat) : Int)))), none⟩] [5, 6, 7, 8, 9, 12, 13, 14, 104])
  (.cond (.t 104)
  (.skip)
  (.exit 6)))
  c_ref10_Edits_k19
def c_ref10_Edits_k21 : VCode := .block 6 (.loop [5, 6, 7, 8, 9, 12, 13, 14] c_ref10_Edits_L20)
def c_ref10_Edits_b22 : VCode := .seq (.ops [⟨some 213, .p (.mov (.t 7)), none⟩,
    ⟨some 214, .p (.mov (.t 5)), none⟩,
    ⟨some 215, .p (.mov (.t 8)), none⟩,
    ⟨some 216, .p (.idxA 1 (.t 214) (.t 215)), none⟩,
    ⟨some 217, .p (.load false 1 (.t 216)), none⟩,
    ⟨some 218, .p (.build [.val (.int .i64 ((0 : Nat) : Int)), .val (.string (str []))] [1, 1] [⟨0, .c (.int .i64 ((0 : Nat) : Int))⟩, ⟨1, .t 217⟩]), none⟩,
    ⟨some 219, .s (.bslice 2 1 (.agg [.val (.int .i64 ((0 : Nat) : Int)), .val (.string (str []))]) [⟨0, .t 218⟩]), none⟩,
    ⟨some 220, .s (.app 2 24 103 (.t 213) (.t 219)), none⟩,
    ⟨some 7, .p (.mov (.t 220)), none⟩] [5, 6, 7, 8, 9, 12, 13])
  (.seq (.ops [⟨some 221, .p (.mov (.t 8)), none⟩,
    ⟨some 222, .p (.bin 3 .add (.t 221) (.c (.int .i64 ((1 : Nat) : Int)))), none⟩,
    ⟨some 8, .p (.mov (.t 222)), none⟩] [5, 6, 7, 8, 9, 12, 13])
  (.ops [⟨some 223, .p (.mov (.t 9)), none⟩,
    ⟨some 224, .p (.bin 3 .add (.t 223) (.c (.int .i64 ((1 : Nat) : Int)))), none⟩,
    ⟨some 9, .p (.mov (.t 224)), none⟩] [5, 6, 7, 8, 9, 12, 13]))
def c_ref10_Edits_b23 : VCode := .seq (.ops [⟨some 257, .p (.mov (.t 7)), none⟩,
    ⟨some 258, .p (.mov (.t 5)), none⟩,
    ⟨some 259, .p (.mov (.t 8)), none⟩,
    ⟨some 260, .p (.idxA 1 (.t 258) (.t 259)), none⟩,
    ⟨some 261, .p (.load false 1 (.t 260)), none⟩,
    ⟨some 262, .p (.build [.val (.int .i64 ((0 : Nat) : Int)), .val (.string (str []))] [1, 1] [⟨0, .c (.int .i64 ((1 : Nat) : Int))⟩, ⟨1, .t 261⟩]), none⟩,
    ⟨some 263, .s (.bslice 2 1 (.agg [.val (.int .i64 ((0 : Nat) : Int)), .val (.string (str []))]) [⟨0, .t 262⟩]), none⟩,
    ⟨some 264, .s (.app 2 24 103 (.t 257) (.t 263)), none⟩,
    ⟨some 7, .p (.mov (.t 264)), none⟩] [5, 6, 7, 8, 9, 12, 13])
  (.ops [⟨some 265, .p (.mov (.t 8)), none⟩,
    ⟨some 266, .p (.bin 3 .add (.t 265) (.c (.int .i64 ((1 : Nat) : Int)))), none⟩,
    ⟨some 8, .p (.mov (.t 266)), none⟩] [5, 6, 7, 8, 9, 12, 13])
def c_ref10_Edits_b24 : VCode := .seq (.ops [⟨some 181, .p (.mov (.t 7)), none⟩,
    ⟨some 182, .p (.mov (.t 6)), none⟩,
    ⟨some 183, .p (.mov (.t 9)), none⟩,
    ⟨some 184, .p (.idxA 1 (.t 182) (.t 183)), none⟩,
    ⟨some 185, .p (.load false 1 (.t 184)), none⟩,
    ⟨some 186, .p (.build [.val (.int .i64 ((0 : Nat) : Int)), .val (.string (str []))] [1, 1] [⟨0, .c (.int .i64 ((2 : Nat) : Int))⟩, ⟨1, .t 185⟩]), none⟩,
    ⟨some 187, .s (.bslice 2 1 (.agg [.val (.int .i64 ((0 : Nat) : Int)), .val (.string (str []))]) [⟨0, .t 186⟩]), none⟩,
    ⟨some 188, .s (.app 2 24 103 (.t 181) (.t 187)), none⟩,
    ⟨some 7, .p (.mov (.t 188)), none⟩] [5, 6, 7, 8, 9, 12, 13])
  (.ops [⟨some 189, .p (.mov (.t 9)), none⟩,
    ⟨some 190, .p (.bin 3 .add (.t 189) (.c (.int .i64 ((1 : Nat) : Int)))), none⟩,
    ⟨some 9, .p (.mov (.t 190)), none⟩] [5, 6, 7, 8, 9, 12, 13])
def c_ref10_Edits_k25 : VCode := .cond (.t 225)
  c_ref10_Edits_b23
  c_ref10_Edits_b24
def c_ref10_Edits_b26 : VCode := .seq (.draw 28 [⟨some 226, .p (.mov (.t 9)), none⟩,
    ⟨some 227, .p (.mov (.t 6)), none⟩,
    ⟨some 228, .p (.lenV (.t 227)), none⟩,
    ⟨some 229, .p (.bin 3 .eql (.t 226) (.t 228)), none⟩,
    ⟨some 230, .p (.mov (.t 229)), none⟩,
    ⟨some 231, .p (.mov (.t 8)), some ⟨230, false⟩⟩,
    ⟨some 232, .p (.mov (.t 5)), some ⟨230, false⟩⟩,
    ⟨some 233, .p (.lenV (.t 232)), some ⟨230, false⟩⟩,
    ⟨some 234, .p (.bin 3 .lss (.t 231) (.t 233)), some ⟨230, false⟩⟩,
    ⟨some 235, .p (.mov (.t 234)), some ⟨230, false⟩⟩,
    ⟨some 236, .p (.mov (.t 13)), some ⟨235, true⟩⟩,
    ⟨some 237, .p (.mov (.t 8)), some ⟨235, true⟩⟩,
    ⟨some 238, .p (.bin 3 .add (.t 237) (.c (.int .i64 ((1 : Nat) : Int)))), some ⟨235, true⟩⟩,
    ⟨some 239, .p (.mov (.t 12)), some ⟨235, true⟩⟩,
    ⟨some 240, .p (.bin 3 .mul (.t 238) (.t 239)), some ⟨235, true⟩⟩,
    ⟨some 241, .p (.mov (.t 9)), some ⟨235, true⟩⟩,
    ⟨some 242, .p (.bin 3 .add (.t 240) (.t 241)), some ⟨235, true⟩⟩,
    ⟨some 243, .p (.idxA 1 (.t 236) (.t 242)), some ⟨235, true⟩⟩,
    ⟨some 244, .p (.load false 1 (.t 243)), some ⟨235, true⟩⟩,
    ⟨some 245, .p (.mov (.t 13)), some ⟨235, true⟩⟩,
    ⟨some 246, .p (.mov (.t 8)), some ⟨235, true⟩⟩,
    ⟨some 247, .p (.mov (.t 12)), some ⟨235, true⟩⟩,
    ⟨some 248, .p (.bin 3 .mul (.t 246) (.t 247)), some ⟨235, true⟩⟩,
    ⟨some 249, .p (.mov (.t 9)), some ⟨235, true⟩⟩,
    ⟨some 250, .p (.bin 3 .add (.t 248) (.t 249)), some ⟨235, true⟩⟩,
    ⟨some 251, .p (.bin 3 .add (.t 250) (.c (.int .i64 ((1 : Nat) : Int)))), some ⟨235, true⟩⟩,
    ⟨some 252, .p (.idxA 1 (.t 245) (.t 251)), some ⟨235, true⟩⟩,
    ⟨some 253, .p (.load false 1 (.t 252)), some ⟨235, true⟩⟩,
    ⟨some 254, .p (.bin 3 .geq (.t 244) (.t 253)), some ⟨235, true⟩⟩,
    ⟨some 255, .p (.pick (.t 235) (.t 254) (.c (.bool false))), some ⟨230, false⟩⟩,
    ⟨some 256, .p (.pick (.t 230) (.c (.bool true)) (.t 255)), none⟩,
    ⟨some 225, .p (.mov (.t 256)), none⟩] [5, 6, 7, 8, 9, 12, 13, 225])
  c_ref10_Edits_k25
def c_ref10_Edits_k27 : VCode := .cond (.t 191)
  c_ref10_Edits_b22
  c_ref10_Edits_b26
def c_ref10_Edits_k28 : VCode := .block 11 (.block 12 (.seq (.draw 19 [⟨some 192, .p (.mov (.t 8)), none⟩,
    ⟨some 193, .p (.mov (.t 5)), none⟩,
    ⟨some 194, .p (.lenV (.t 193)), none⟩,
    ⟨some 195, .p (.bin 3 .lss (.t 192) (.t 194)), none⟩,
    ⟨some 196, .p (.mov (.t 195)), none⟩,
    ⟨some 197, .p (.mov (.t 9)), some ⟨196, true⟩⟩,
    ⟨some 198, .p (.mov (.t 6)), some ⟨196, true⟩⟩,
    ⟨some 199, .p (.lenV (.t 198)), some ⟨196, true⟩⟩,
    ⟨some 200, .p (.bin 3 .lss (.t 197) (.t 199)), some ⟨196, true⟩⟩,
    ⟨some 201, .p (.pick (.t 196) (.t 200) (.c (.bool false))), none⟩,
    ⟨some 202, .p (.mov (.t 201)), none⟩,
    ⟨some 203, .p (.mov (.t 5)), some ⟨202, true⟩⟩,
    ⟨some 204, .p (.mov (.t 8)), some ⟨202, true⟩⟩,
    ⟨some 205, .p (.idxA 1 (.t 203) (.t 204)), some ⟨202, true⟩⟩,
    ⟨some 206, .p (.load false 1 (.t 205)), some ⟨202, true⟩⟩,
    ⟨some 207, .p (.mov (.t 6)), some ⟨202, true⟩⟩,
    ⟨some 208, .p (.mov (.t 9)), some ⟨202, true⟩⟩,
    ⟨some 209, .p (.idxA 1 (.t 207) (.t 208)), some ⟨202, true⟩⟩,
    ⟨some 210, .p (.load false 1 (.t 209)), some ⟨202, true⟩⟩,
    ⟨some 211, .p (.bin 9 .eql (.t 206) (.t 210)), some ⟨202, true⟩⟩,
    ⟨some 212, .p (.pick (.t 202) (.t 211) (.c (.bool false))), none⟩,
    ⟨some 191, .p (.mov (.t 212)), none⟩] [5, 6, 7, 8, 9, 12, 13, 191])
  c_ref10_Edits_k27))
def c_ref10_Edits_L29 : VCode := .seq (.seq (.ops [⟨some 171, .p (.mov (.t 8)), none⟩,
    ⟨some 172, .p (.mov (.t 5)), none⟩,
    ⟨some 173, .p (.lenV (.t 172)), none⟩,
    ⟨some 174, .p (.bin 3 .lss (.t 171) (.t 173)), none⟩,
    ⟨some 175, .p (.mov (.t 174)), none⟩,
    ⟨some 176, .p (.mov (.t 9)), some ⟨175, false⟩⟩,
    ⟨some 177, .p (.mov (.t 6)), some ⟨175, false⟩⟩,
    ⟨some 178, .p (.lenV (.t 177)), some ⟨175, false⟩⟩,
    ⟨some 179, .p (.bin 3 .lss (.t 176) (.t 178)), some ⟨175, false⟩⟩,
    ⟨some 180, .p (.pick (.t 175) (.c (.bool true)) (.t 179)), none⟩] [5, 6, 7, 8, 9, 12, 13, 180])
  (.cond (.t 180)
  (.skip)
  (.exit 10)))
  c_ref10_Edits_k28
def c_ref10_Edits_k30 : VCode := .seq (.ops [⟨some 267, .p (.mov (.t 7)), none⟩,
    ⟨some 4, .p (.mov (.t 267)), none⟩] [4])
  (.ret)
def c_ref10_Edits_k31 : VCode := .seq (.block 10 (.own 7 2 (.loop [5, 6, 7, 8, 9, 12, 13] c_ref10_Edits_L29)))
  c_ref10_Edits_k30
def c_ref10_Edits_k32 : VCode := .seq (.seq (.ops [⟨some 100, .p (.mov (.t 5)), none⟩,
    ⟨some 101, .p (.lenV (.t 100)), none⟩,
    ⟨some 102, .p (.bin 3 .sub (.t 101) (.c (.int .i64 ((1 : Nat) : Int)))), none⟩,
    ⟨some 14, .p (.mov (.t 102)), none⟩] [5, 6, 7, 8, 9, 12, 13, 14])
  c_ref10_Edits_k21)
  c_ref10_Edits_k31
def c_ref10_Edits_k33 : VCode := .seq (.ops [⟨some 94, .p (.mov (.t 5)), none⟩,
    ⟨some 95, .p (.lenV (.t 94)), none⟩,
    ⟨some 96, .p (.bin 3 .add (.t 95) (.c (.int .i64 ((1 : Nat) : Int)))), none⟩,
    ⟨some 97, .p (.mov (.t 12)), none⟩,
    ⟨some 98, .p (.bin 3 .mul (.t 96) (.t 97)), none⟩,
    ⟨some 99, .s (.mks 1 8 (.val (.int .i64 ((0 : Nat) : Int))) (.t 98) (.t 98)), none⟩,
    ⟨some 13, .p (.mov (.t 99)), none⟩] [5, 6, 7, 8, 9, 12, 13])
  c_ref10_Edits_k32
def c_ref10_Edits_k34 : VCode := .seq (.ops [⟨some 91, .p (.mov (.t 6)), none⟩,
    ⟨some 92, .p (.lenV (.t 91)), none⟩,
    ⟨some 93, .p (.bin 3 .add (.t 92) (.c (.int .i64 ((1 : Nat) : Int)))), none⟩,
    ⟨some 12, .p (.mov (.t 93)), none⟩] [5, 6, 7, 8, 9, 12])
  c_ref10_Edits_k33
def c_ref10_Edits_k35 : VCode := .seq (.seq (.ops [⟨some 21, .p (.mov (.t 5)), none⟩,
    ⟨some 22, .p (.lenV (.t 21)), none⟩,
    ⟨some 23, .p (.bin 3 .gtr (.t 22) (.c (.int .i64 ((2000 : Nat) : Int)))), none⟩,
    ⟨some 24, .p (.mov (.t 23)), none⟩,
    ⟨some 25, .p (.mov (.t 6)), some ⟨24, false⟩⟩,
    ⟨some 26, .p (.lenV (.t 25)), some ⟨24, false⟩⟩,
    ⟨some 27, .p (.bin 3 .gtr (.t 26) (.c (.int .i64 ((2000 : Nat) : Int)))), some ⟨24, false⟩⟩,
    ⟨some 28, .p (.pick (.t 24) (.c (.bool true)) (.t 27)), none⟩] [5, 6, 7, 8, 9, 28])
  c_ref10_Edits_k10)
  c_ref10_Edits_k34
def c_ref10_Edits_k36 : VCode := .seq (.ops [⟨some 9, .p (.mov (.c (.int .i64 ((0 : Nat) : Int)))), none⟩] [5, 6, 7, 8, 9])
  c_ref10_Edits_k35
def c_ref10_Edits_k37 : VCode := .seq (.ops [⟨some 8, .p (.mov (.c (.int .i64 ((0 : Nat) : Int)))), none⟩] [5, 6, 7, 8])
  c_ref10_Edits_k36
def c_ref10_Edits_k38 : VCode := .seq (.ops [⟨some 7, .p (.mov (.c (.slice none 0 0))), none⟩] [5, 6, 7])
  c_ref10_Edits_k37
def c_ref10_Edits_k39 : VCode := .seq (.ops [⟨some 19, .p (.mov (.t 1)), none⟩,
    ⟨some 20, .s (.call 118 [.t 19]), none⟩,
    ⟨some 6, .p (.mov (.t 20)), none⟩] [5, 6])
  c_ref10_Edits_k38
def c_ref10_Edits_k40 : VCode := .seq (.ops [⟨some 17, .p (.mov (.t 0)), none⟩,
    ⟨some 18, .s (.call 118 [.t 17]), none⟩,
    ⟨some 5, .p (.mov (.t 18)), none⟩] [1, 5])
  c_ref10_Edits_k39
def c_ref10_Edits : VCode := .seq (.ops [⟨some 4, .p (.mov (.c (.slice none 0 0))), none⟩] [0, 1])
  c_ref10_Edits_k40
def r_ref10_Edits : List VR := [.tmp 4]
theorem t_ref10_Edits : Tryd.f60.body.bind (trC Tryd.prog Tryd.f60.ntmps) = some (er c_ref10_Edits) := by kernel_rfl
theorem w_ref10_Edits : trR Tryd.prog Tryd.f60.results.toList = some r_ref10_Edits := by kernel_rfl
theorem u_ref10_Edits_L1_e {P : Program} {Q : VEx → Env → List Ob → Prop} {e : Env} {H : List Ob} : vwp P c_ref10_Edits_L1 Q e H = vwp P (.seq (.seq (.draw 19 [⟨some 29, .p (.mov (.t 8)), none⟩,
    ⟨some 30, .p (.mov (.t 5)), none⟩,
    ⟨some 31, .p (.lenV (.t 30)), none⟩,
    ⟨some 32, .p (.bin 3 .lss (.t 29) (.t 31)), none⟩,
    ⟨some 33, .p (.mov (.t 32)), none⟩,
    ⟨some 34, .p (.mov (.t 8)), some ⟨33, true⟩⟩,
    ⟨some 35, .p (.mov (.t 6)), some ⟨33, true⟩⟩,
    ⟨some 36, .p (.lenV (.t 35)), some ⟨33, true⟩⟩,
    ⟨some 37, .p (.bin 3 .lss (.t 34) (.t 36)), some ⟨33, true⟩⟩,
    ⟨some 38, .p (.pick (.t 33) (.t 37) (.c (.bool false))), none⟩,
    ⟨some 39, .p (.mov (.t 38)), none⟩,
    ⟨some 40, .p (.mov (.t 5)), some ⟨39, true⟩⟩,
    ⟨some 41, .p (.mov (.t 8)), some ⟨39, true⟩⟩,
    ⟨some 42, .p (.idxA 1 (.t 40) (.t 41)), some ⟨39, true⟩⟩,
    ⟨some 43, .p (.load false 1 (.t 42)), some ⟨39, true⟩⟩,
    ⟨some 44, .p (.mov (.t 6)), some ⟨39, true⟩⟩,
    ⟨some 45, .p (.mov (.t 8)), some ⟨39, true⟩⟩,
    ⟨some 46, .p (.idxA 1 (.t 44) (.t 45)), some ⟨39, true⟩⟩,
    ⟨some 47, .p (.load false 1 (.t 46)), some ⟨39, true⟩⟩,
    ⟨some 48, .p (.bin 9 .eql (.t 43) (.t 47)), some ⟨39, true⟩⟩,
    ⟨some 49, .p (.pick (.t 39) (.t 48) (.c (.bool false))), none⟩] [5, 6, 7, 8, 49])
  (.cond (.t 49)
  (.skip)
  (.exit 0)))
  (.block 1 (.seq (.ops [⟨some 50, .p (.mov (.t 7)), none⟩,
    ⟨some 51, .p (.mov (.t 5)), none⟩,
    ⟨some 52, .p (.mov (.t 8)), none⟩,
    ⟨some 53, .p (.idxA 1 (.t 51) (.t 52)), none⟩,
    ⟨some 54, .p (.load false 1 (.t 53)), none⟩,
    ⟨some 55, .p (.build [.val (.int .i64 ((0 : Nat) : Int)), .val (.string (str []))] [1, 1] [⟨0, .c (.int .i64 ((0 : Nat) : Int))⟩, ⟨1, .t 54⟩]), none⟩,
    ⟨some 56, .s (.bslice 2 1 (.agg [.val (.int .i64 ((0 : Nat) : Int)), .val (.string (str []))]) [⟨0, .t 55⟩]), none⟩,
    ⟨some 57, .s (.app 2 24 103 (.t 50) (.t 56)), none⟩,
    ⟨some 7, .p (.mov (.t 57)), none⟩] [5, 6, 7, 8])
  (.ops [⟨some 58, .p (.mov (.t 8)), none⟩,
    ⟨some 59, .p (.bin 3 .add (.t 58) (.c (.int .i64 ((1 : Nat) : Int)))), none⟩,
    ⟨some 8, .p (.mov (.t 59)), none⟩] [5, 6, 7, 8])))) Q e H := by_refl rfl
theorem u_ref10_Edits_L2_e {P : Program} {Q : VEx → Env → List Ob → Prop} {e : Env} {H : List Ob} : vwp P c_ref10_Edits_L2 Q e H = vwp P (.seq (.seq (.ops [⟨some 61, .p (.mov (.t 10)), none⟩,
    ⟨some 62, .p (.mov (.t 5)), none⟩,
    ⟨some 63, .p (.lenV (.t 62)), none⟩,
    ⟨some 64, .p (.bin 3 .lss (.t 61) (.t 63)), none⟩] [5, 6, 7, 8, 10, 64])
  (.cond (.t 64)
  (.skip)
  (.exit 2)))
  (.seq (.block 3 (.ops [⟨some 67, .p (.mov (.t 7)), none⟩,
    ⟨some 68, .p (.mov (.t 5)), none⟩,
    ⟨some 69, .p (.mov (.t 10)), none⟩,
    ⟨some 70, .p (.idxA 1 (.t 68) (.t 69)), none⟩,
    ⟨some 71, .p (.load false 1 (.t 70)), none⟩,
    ⟨some 72, .p (.build [.val (.int .i64 ((0 : Nat) : Int)), .val (.string (str []))] [1, 1] [⟨0, .c (.int .i64 ((1 : Nat) : Int))⟩, ⟨1, .t 71⟩]), none⟩,
    ⟨some 73, .s (.bslice 2 1 (.agg [.val (.int .i64 ((0 : Nat) : Int)), .val (.string (str []))]) [⟨0, .t 72⟩]), none⟩,
    ⟨some 74, .s (.app 2 24 103 (.t 67) (.t 73)), none⟩,
    ⟨some 7, .p (.mov (.t 74)), none⟩] [5, 6, 7, 8, 10]))
  (.ops [⟨some 65, .p (.mov (.t 10)), none⟩,
    ⟨some 66, .p (.bin 3 .add (.t 65) (.c (.int .i64 ((1 : Nat) : Int)))), none⟩,
    ⟨some 10, .p (.mov (.t 66)), none⟩] [5, 6, 7, 8, 10]))) Q e H := by_refl rfl
theorem u_ref10_Edits_k3_e {P : Program} {Q : VEx → Env → List Ob → Prop} {e : Env} {H : List Ob} : vwp P c_ref10_Edits_k3 Q e H = vwp P (.block 2 (.own 7 2 (.loop [5, 6, 7, 8, 10] c_ref10_Edits_L2))) Q e H := by_refl rfl
theorem u_ref10_Edits_L4_e {P : Program} {Q : VEx → Env → List Ob → Prop} {e : Env} {H : List Ob} : vwp P c_ref10_Edits_L4 Q e H = vwp P (.seq (.seq (.ops [⟨some 76, .p (.mov (.t 11)), none⟩,
    ⟨some 77, .p (.mov (.t 6)), none⟩,
    ⟨some 78, .p (.lenV (.t 77)), none⟩,
    ⟨some 79, .p (.bin 3 .lss (.t 76) (.t 78)), none⟩] [6, 7, 11, 79])
  (.cond (.t 79)
  (.skip)
  (.exit 4)))
  (.seq (.block 5 (.ops [⟨some 82, .p (.mov (.t 7)), none⟩,
    ⟨some 83, .p (.mov (.t 6)), none⟩,
    ⟨some 84, .p (.mov (.t 11)), none⟩,
    ⟨some 85, .p (.idxA 1 (.t 83) (.t 84)), none⟩,
    ⟨some 86, .p (.load false 1 (.t 85)), none⟩,
    ⟨some 87, .p (.build [.val (.int .i64 ((0 : Nat) : Int)), .val (.string (str []))] [1, 1] [⟨0, .c (.int .i64 ((2 : Nat) : Int))⟩, ⟨1, .t 86⟩]), none⟩,
    ⟨some 88, .s (.bslice 2 1 (.agg [.val (.int .i64 ((0 : Nat) : Int)), .val (.string (str []))]) [⟨0, .t 87⟩]), none⟩,
    ⟨some 89, .s (.app 2 24 103 (.t 82) (.t 88)), none⟩,
    ⟨some 7, .p (.mov (.t 89)), none⟩] [6, 7, 11]))
  (.ops [⟨some 80, .p (.mov (.t 11)), none⟩,
    ⟨some 81, .p (.bin 3 .add (.t 80) (.c (.int .i64 ((1 : Nat) : Int)))), none⟩,
    ⟨some 11, .p (.mov (.t 81)), none⟩] [6, 7, 11]))) Q e H := by_refl rfl
theorem u_ref10_Edits_k5_e {P : Program} {Q : VEx → Env → List Ob → Prop} {e : Env} {H : List Ob} : vwp P c_ref10_Edits_k5 Q e H = vwp P (.block 4 (.own 7 2 (.loop [6, 7, 11] c_ref10_Edits_L4))) Q e H := by_refl rfl
theorem u_ref10_Edits_k6_e {P : Program} {Q : VEx → Env → List Ob → Prop} {e : Env} {H : List Ob} : vwp P c_ref10_Edits_k6 Q e H = vwp P (.seq (.ops [⟨some 90, .p (.mov (.t 7)), none⟩,
    ⟨some 4, .p (.mov (.t 90)), none⟩] [4])
  (.ret)) Q e H := by_refl rfl
theorem u_ref10_Edits_k7_e {P : Program} {Q : VEx → Env → List Ob → Prop} {e : Env} {H : List Ob} : vwp P c_ref10_Edits_k7 Q e H = vwp P (.seq (.seq (.ops [⟨some 75, .p (.mov (.t 8)), none⟩,
    ⟨some 11, .p (.mov (.t 75)), none⟩] [6, 7, 11])
  c_ref10_Edits_k5)
  c_ref10_Edits_k6) Q e H := by_refl rfl
theorem u_ref10_Edits_k8_e {P : Program} {Q : VEx → Env → List Ob → Prop} {e : Env} {H : List Ob} : vwp P c_ref10_Edits_k8 Q e H = vwp P (.seq (.seq (.ops [⟨some 60, .p (.mov (.t 8)), none⟩,
    ⟨some 10, .p (.mov (.t 60)), none⟩] [5, 6, 7, 8, 10])
  c_ref10_Edits_k3)
  c_ref10_Edits_k7) Q e H := by_refl rfl
theorem u_ref10_Edits_b9_e {P : Program} {Q : VEx → Env → List Ob → Prop} {e : Env} {H : List Ob} : vwp P c_ref10_Edits_b9 Q e H = vwp P (.seq (.block 0 (.own 7 2 (.loop [5, 6, 7, 8] c_ref10_Edits_L1)))
  c_ref10_Edits_k8) Q e H := by_refl rfl
theorem u_ref10_Edits_k10_e {P : Program} {Q : VEx → Env → List Ob → Prop} {e : Env} {H : List Ob} : vwp P c_ref10_Edits_k10 Q e H = vwp P (.cond (.t 28)
  c_ref10_Edits_b9
  (.skip)) Q e H := by_refl rfl
theorem u_ref10_Edits_b11_e {P : Program} {Q : VEx → Env → List Ob → Prop} {e : Env} {H : List Ob} : vwp P c_ref10_Edits_b11 Q e H = vwp P (.ops [⟨some 134, .p (.mov (.t 13)), none⟩,
    ⟨some 135, .p (.mov (.t 14)), none⟩,
    ⟨some 136, .p (.mov (.t 12)), none⟩,
    ⟨some 137, .p (.bin 3 .mul (.t 135) (.t 136)), none⟩,
    ⟨some 138, .p (.mov (.t 15)), none⟩,
    ⟨some 139, .p (.bin 3 .add (.t 137) (.t 138)), none⟩,
    ⟨some 140, .p (.bin 3 .add (.t 139) (.c (.int .i64 ((1 : Nat) : Int)))), none⟩,
    ⟨some 141, .p (.idxA 1 (.t 134) (.t 140)), none⟩,
    ⟨some 142, .p (.load false 1 (.t 141)), none⟩,
    ⟨some 16, .p (.mov (.t 142)), none⟩] [5, 6, 7, 8, 9, 12, 13, 14, 15, 16]) Q e H := by_refl rfl
theorem u_ref10_Edits_b12_e {P : Program} {Q : VEx → Env → List Ob → Prop} {e : Env} {H : List Ob} : vwp P c_ref10_Edits_b12 Q e H = vwp P (.ops [⟨some 152, .p (.mov (.t 13)), none⟩,
    ⟨some 153, .p (.mov (.t 14)), none⟩,
    ⟨some 154, .p (.bin 3 .add (.t 153) (.c (.int .i64 ((1 : Nat) : Int)))), none⟩,
    ⟨some 155, .p (.mov (.t 12)), none⟩,
    ⟨some 156, .p (.bin 3 .mul (.t 154) (.t 155)), none⟩,
    ⟨some 157, .p (.mov (.t 15)), none⟩,
    ⟨some 158, .p (.bin 3 .add (.t 156) (.t 157)), none⟩,
    ⟨some 159, .p (.bin 3 .add (.t 158) (.c (.int .i64 ((1 : Nat) : Int)))), none⟩,
    ⟨some 160, .p (.idxA 1 (.t 152) (.t 159)), none⟩,
    ⟨some 161, .p (.load false 1 (.t 160)), none⟩,
    ⟨some 162, .p (.bin 3 .add (.t 161) (.c (.int .i64 ((1 : Nat) : Int)))), none⟩,
    ⟨some 16, .p (.mov (.t 162)), none⟩] [5, 6, 7, 8, 9, 12, 13, 14, 15, 16]) Q e H := by_refl rfl
theorem u_ref10_Edits_k13_e {P : Program} {Q : VEx → Env → List Ob → Prop} {e : Env} {H : List Ob} : vwp P c_ref10_Edits_k13 Q e H = vwp P (.seq (.seq (.draw 5 [⟨some 143, .p (.mov (.t 5)), none⟩,
    ⟨some 144, .p (.mov (.t 14)), none⟩,
    ⟨some 145, .p (.idxA 1 (.t 143) (.t 144)), none⟩,
    ⟨some 146, .p (.load false 1 (.t 145)), none⟩,
    ⟨some 147, .p (.mov (.t 6)), none⟩,
    ⟨some 148, .p (.mov (.t 15)), none⟩,
    ⟨some 149, .p (.idxA 1 (.t 147) (.t 148)), none⟩,
    ⟨some 150, .p (.load false 1 (.t 149)), none⟩,
    ⟨some 151, .p (.bin 9 .eql (.t 146) (.t 150)), none⟩] [5, 6, 7, 8, 9, 12, 13, 14, 15, 16, 151])
  (.cond (.t 151)
  c_ref10_Edits_b12
  (.skip)))
  (.ops [⟨some 163, .p (.mov (.t 13)), none⟩,
    ⟨some 164, .p (.mov (.t 14)), none⟩,
    ⟨some 165, .p (.mov (.t 12)), none⟩,
    ⟨some 166, .p (.bin 3 .mul (.t 164) (.t 165)), none⟩,
    ⟨some 167, .p (.mov (.t 15)), none⟩,
    ⟨some 168, .p (.bin 3 .add (.t 166) (.t 167)), none⟩,
    ⟨some 169, .p (.mov (.t 16)), none⟩,
    ⟨some 170, .p (.idxA 1 (.t 163) (.t 168)), none⟩,
    ⟨none, .s (.store 1 (.t 170) (.t 169)), none⟩] [5, 6, 7, 8, 9, 12, 13, 14, 15])) Q e H := by_refl rfl
theorem u_ref10_Edits_k14_e {P : Program} {Q : VEx → Env → List Ob → Prop} {e : Env} {H : List Ob} : vwp P c_ref10_Edits_k14 Q e H = vwp P (.seq (.seq (.ops [⟨some 123, .p (.mov (.t 13)), none⟩,
    ⟨some 124, .p (.mov (.t 14)), none⟩,
    ⟨some 125, .p (.mov (.t 12)), none⟩,
    ⟨some 126, .p (.bin 3 .mul (.t 124) (.t 125)), none⟩,
    ⟨some 127, .p (.mov (.t 15)), none⟩,
    ⟨some 128, .p (.bin 3 .add (.t 126) (.t 127)), none⟩,
    ⟨some 129, .p (.bin 3 .add (.t 128) (.c (.int .i64 ((1 : Nat) : Int)))), none⟩,
    ⟨some 130, .p (.idxA 1 (.t 123) (.t 129)), none⟩,
    ⟨some 131, .p (.load false 1 (.t 130)), none⟩,
    ⟨some 132, .p (.mov (.t 16)), none⟩,
    ⟨some 133, .p (.bin 3 .gtr (.t 131) (.t 132)), none⟩] [5, 6, 7, 8, 9, 12, 13, 14, 15, 16, 133])
  (.cond (.t 133)
  c_ref10_Edits_b11
  (.skip)))
  c_ref10_Edits_k13) Q e H := by_refl rfl
theorem u_ref10_Edits_k15_e {P : Program} {Q : VEx → Env → List Ob → Prop} {e : Env} {H : List Ob} : vwp P c_ref10_Edits_k15 Q e H = vwp P (.seq (.block 9 (.seq (.ops [⟨some 114, .p (.mov (.t 13)), none⟩,
    ⟨some 115, .p (.mov (.t 14)), none⟩,
    ⟨some 116, .p (.bin 3 .add (.t 115) (.c (.int .i64 ((1 : Nat) : Int)))), none⟩,
    ⟨some 117, .p (.mov (.t 12)), none⟩,
    ⟨some 118, .p (.bin 3 .mul (.t 116) (.t 117)), none⟩,
    ⟨some 119, .p (.mov (.t 15)), none⟩,
    ⟨some 120, .p (.bin 3 .add (.t 118) (.t 119)), none⟩,
    ⟨some 121, .p (.idxA 1 (.t 114) (.t 120)), none⟩,
    ⟨some 122, .p (.load false 1 (.t 121)), none⟩,
    ⟨some 16, .p (.mov (.t 122)), none⟩] [5, 6, 7, 8, 9, 12, 13, 14, 15, 16])
  c_ref10_Edits_k14))
  (.ops [⟨some 112, .p (.mov (.t 15)), none⟩,
    ⟨some 113, .p (.bin 3 .sub (.t 112) (.c (.int .i64 ((1 : Nat) : Int)))), none⟩,
    ⟨some 15, .p (.mov (.t 113)), none⟩] [5, 6, 7, 8, 9, 12, 13, 14, 15])) Q e H := by_refl rfl
theorem u_ref10_Edits_L16_e {P : Program} {Q : VEx → Env → List Ob → Prop} {e : Env} {H : List Ob} : vwp P c_ref10_Edits_L16 Q e H = vwp P (.seq (.seq (.ops [⟨some 110, .p (.mov (.t 15)), none⟩,
    ⟨some 111, .p (.bin 3 .geq (.t 110) (.c (.int .i64 ((0 : Nat) : Int)))), none⟩] [5, 6, 7, 8, 9, 12, 13, 14, 15, 111])
  (.cond (.t 111)
  (.skip)
  (.exit 8)))
  c_ref10_Edits_k15) Q e H := by_refl rfl
theorem u_ref10_Edits_k17_e {P : Program} {Q : VEx → Env → List Ob → Prop} {e : Env} {H : List Ob} : vwp P c_ref10_Edits_k17 Q e H = vwp P (.block 8 (.loop [5, 6, 7, 8, 9, 12, 13, 14, 15] c_ref10_Edits_L16)) Q e H := by_refl rfl
theorem u_ref10_Edits_k18_e {P : Program} {Q : VEx → Env → List Ob → Prop} {e : Env} {H : List Ob} : vwp P c_ref10_Edits_k18 Q e H = vwp P (.ops [⟨some 105, .p (.mov (.t 14)), none⟩,
    ⟨some 106, .p (.bin 3 .sub (.t 105) (.c (.int .i64 ((1 : Nat) : Int)))), none⟩,
    ⟨some 14, .p (.mov (.t 106)), none⟩] [5, 6, 7, 8, 9, 12, 13, 14]) Q e H := by_refl rfl
theorem u_ref10_Edits_k19_e {P : Program} {Q : VEx → Env → List Ob → Prop} {e : Env} {H : List Ob} : vwp P c_ref10_Edits_k19 Q e H = vwp P (.seq (.block 7 (.seq (.ops [⟨some 107, .p (.mov (.t 6)), none⟩,
    ⟨some 108, .p (.lenV (.t 107)), none⟩,
    ⟨some 109, .p (.bin 3 .sub (.t 108) (.c (.int .i64 ((1 : Nat) : Int)))), none⟩,
    ⟨some 15, .p (.mov (.t 109)), none⟩] [5, 6, 7, 8, 9, 12, 13, 14, 15])
  c_ref10_Edits_k17))
  c_ref10_Edits_k18) Q e H := by_refl rfl
theorem u_ref10_Edits_L20_e {P : Program} {Q : VEx → Env → List Ob → Prop} {e : Env} {H : List Ob} : vwp P c_ref10_Edits_L20 Q e H = vwp P (.seq (.seq (.ops [⟨some 103, .p (.mov (.t 14)), none⟩,
    ⟨some 104, .p (.bin 3 .geq (.t 103) (.c (.int .i64 ((0 : Nat) : Int)))), none⟩] [5, 6, 7, 8, 9, 12, 13, 14, 104])
  (.cond (.t 104)
  (.skip)
  (.exit 6)))
  c_ref10_Edits_k19) Q e H := by_refl rfl
theorem u_ref10_Edits_k21_e {P : Program} {Q : VEx → Env → List Ob → Prop} {e : Env} {H : List Ob} : vwp P c_ref10_Edits_k21 Q e H = vwp P (.block 6 (.loop [5, 6, 7, 8, 9, 12, 13, 14] c_ref10_Edits_L20)) Q e H := by_refl rfl
theorem u_ref10_Edits_b22_e {P : Program} {Q : VEx → Env → List Ob → Prop} {e : Env} {H : List Ob} : vwp P c_ref10_Edits_b22 Q e H = vwp P (.seq (.ops [⟨some 213, .p (.mov (.t 7)), none⟩,
    ⟨some 214, .p (.mov (.t 5)), none⟩,
    ⟨some 215, .p (.mov (.t 8)), none⟩,
    ⟨some 216, .p (.idxA 1 (.t 214) (.t 215)), none⟩,
    ⟨some 217, .p (.load false 1 (.t 216)), none⟩,
    ⟨some 218, .p (.build [.val (.int .i64 ((0 : Nat) : Int)), .val (.string (str []))] [1, 1] [⟨0, .c (.int .i64 ((0 : Nat) : Int))⟩, ⟨1, .t 217⟩]), none⟩,
    ⟨some 219, .s (.bslice 2 1 (.agg [.val (.int .i64 ((0 : Nat) : Int)), .val (.string (str []))]) [⟨0, .t 218⟩]), none⟩,
    ⟨some 220, .s (.app 2 24 103 (.t 213) (.t 219)), none⟩,
    ⟨some 7, .p (.mov (.t 220)), none⟩] [5, 6, 7, 8, 9, 12, 13])
  (.seq (.ops [⟨some 221, .p (.mov (.t 8)), none⟩,
    ⟨some 222, .p (.bin 3 .add (.t 221) (.c (.int .i64 ((1 : Nat) : Int)))), none⟩,
    ⟨some 8, .p (.mov (.t 222)), none⟩] [5, 6, 7, 8, 9, 12, 13])
  (.ops [⟨some 223, .p (.mov (.t 9)), none⟩,
    ⟨some 224, .p (.bin 3 .add (.t 223) (.c (.int .i64 ((1 : Nat) : Int)))), none⟩,
    ⟨some 9, .p (.mov (.t 224)), none⟩] [5, 6, 7, 8, 9, 12, 13]))) Q e H := by_refl rfl
theorem u_ref10_Edits_b23_e {P : Program} {Q : VEx → Env → List Ob → Prop} {e : Env} {H : List Ob} : vwp P c_ref10_Edits_b23 Q e H = vwp P (.seq (.ops [⟨some 257, .p (.mov (.t 7)), none⟩,
    ⟨some 258, .p (.mov (.t 5)), none⟩,
    ⟨some 259, .p (.mov (.t 8)), none⟩,
    ⟨some 260, .p (.idxA 1 (.t 258) (.t 259)), none⟩,
    ⟨some 261, .p (.load false 1 (.t 260)), none⟩,
    ⟨some 262, .p (.build [.val (.int .i64 ((0 : Nat) : Int)), .val (.string (str []))] [1, 1] [⟨0, .c (.int .i64 ((1 : Nat) : Int))⟩, ⟨1, .t 261⟩]), none⟩,
    ⟨some 263, .s (.bslice 2 1 (.agg [.val (.int .i64 ((0 : Nat) : Int)), .val (.string (str []))]) [⟨0, .t 262⟩]), none⟩,
    ⟨some 264, .s (.app 2 24 103 (.t 257) (.t 263)), none⟩,
    ⟨some 7, .p (.mov (.t 264)), none⟩] [5, 6, 7, 8, 9, 12, 13])
  (.ops [⟨some 265, .p (.mov (.t 8)), none⟩,
    ⟨some 266, .p (.bin 3 .add (.t 265) (.c (.int .i64 ((1 : Nat) : Int)))), none⟩,
    ⟨some 8, .p (.mov (.t 266)), none⟩] [5, 6, 7, 8, 9, 12, 13])) Q e H := by_refl rfl
theorem u_ref10_Edits_b24_e {P : Program} {Q : VEx → Env → List Ob → Prop} {e : Env} {H : List Ob} : vwp P c_ref10_Edits_b24 Q e H = vwp P (.seq (.ops [⟨some 181, .p (.mov (.t 7)), none⟩,
    ⟨some 182, .p (.mov (.t 6)), none⟩,
    ⟨some 183, .p (.mov (.t 9)), none⟩,
    ⟨some 184, .p (.idxA 1 (.t 182) (.t 183)), none⟩,
    ⟨some 185, .p (.load false 1 (.t 184)), none⟩,
    ⟨some 186, .p (.build [.val (.int .i64 ((0 : Nat) : Int)), .val (.string (str []))] [1, 1] [⟨0, .c (.int .i64 ((2 : Nat) : Int))⟩, ⟨1, .t 185⟩]), none⟩,
    ⟨some 187, .s (.bslice 2 1 (.agg [.val (.int .i64 ((0 : Nat) : Int)), .val (.string (str []))]) [⟨0, .t 186⟩]), none⟩,
    ⟨some 188, .s (.app 2 24 103 (.t 181) (.t 187)), none⟩,
    ⟨some 7, .p (.mov (.t 188)), none⟩] [5, 6, 7, 8, 9, 12, 13])
  (.ops [⟨some 189, .p (.mov (.t 9)), none⟩,
    ⟨some 190, .p (.bin 3 .add (.t 189) (.c (.int .i64 ((1 : Nat) : Int)))), none⟩,
    ⟨some 9, .p (.mov (.t 190)), none⟩] [5, 6, 7, 8, 9, 12, 13])) Q e H := by_refl rfl
theorem u_ref10_Edits_k25_e {P : Program} {Q : VEx → Env → List Ob → Prop} {e : Env} {H : List Ob} : vwp P c_ref10_Edits_k25 Q e H = vwp P (.cond (.t 225)
  c_ref10_Edits_b23
  c_ref10_Edits_b24) Q e H := by_refl rfl
theorem u_ref10_Edits_b26_e {P : Program} {Q : VEx → Env → List Ob → Prop} {e : Env} {H : List Ob} : vwp P c_ref10_Edits_b26 Q e H = vwp P (.seq (.draw 28 [⟨some 226, .p (.mov (.t 9)), none⟩,
    ⟨some 227, .p (.mov (.t 6)), none⟩,
    ⟨some 228, .p (.lenV (.t 227)), none⟩,
    ⟨some 229, .p (.bin 3 .eql (.t 226) (.t 228)), none⟩,
    ⟨some 230, .p (.mov (.t 229)), none⟩,
    ⟨some 231, .p (.mov (.t 8)), some ⟨230, false⟩⟩,
    ⟨some 232, .p (.mov (.t 5)), some ⟨230, false⟩⟩,
    ⟨some 233, .p (.lenV (.t 232)), some ⟨230, false⟩⟩,
    ⟨some 234, .p (.bin 3 .lss (.t 231) (.t 233)), some ⟨230, false⟩⟩,
    ⟨some 235, .p (.mov (.t 234)), some ⟨230, false⟩⟩,
    ⟨some 236, .p (.mov (.t 13)), some ⟨235, true⟩⟩,
    ⟨some 237, .p (.mov (.t 8)), some ⟨235, true⟩⟩,
    ⟨some 238, .p (.bin 3 .add (.t 237) (.c (.int .i64 ((1 : Nat) : Int)))), some ⟨235, true⟩⟩,
    ⟨some 239, .p (.mov (.t 12)), some ⟨235, true⟩⟩,
    ⟨some 240, .p (.bin 3 .mul (.t 238) (.t 239)), some ⟨235, true⟩⟩,
    ⟨some 241, .p (.mov (.t 9)), some ⟨235, true⟩⟩,
    ⟨some 242, .p (.bin 3 .add (.t 240) (.t 241)), some ⟨235, true⟩⟩,
    ⟨some 243, .p (.idxA 1 (.t 236) (.t 242)), some ⟨235, true⟩⟩,
    ⟨some 244, .p (.load false 1 (.t 243)), some ⟨235, true⟩⟩,
    ⟨some 245, .p (.mov (.t 13)), some ⟨235, true⟩⟩,
    ⟨some 246, .p (.mov (.t 8)), some ⟨235, true⟩⟩,
    ⟨some 247, .p (.mov (.t 12)), some ⟨235, true⟩⟩,
    ⟨some 248, .p (.bin 3 .mul (.t 246) (.t 247)), some ⟨235, true⟩⟩,
    ⟨some 249, .p (.mov (.t 9)), some ⟨235, true⟩⟩,
    ⟨some 250, .p (.bin 3 .add (.t 248) (.t 249)), some ⟨235, true⟩⟩,
    ⟨some 251, .p (.bin 3 .add (.t 250) (.c (.int .i64 ((1 : Nat) : Int)))), some ⟨235, true⟩⟩,
    ⟨some 252, .p (.idxA 1 (.t 245) (.t 251)), some ⟨235, true⟩⟩,
    ⟨some 253, .p (.load false 1 (.t 252)), some ⟨235, true⟩⟩,
    ⟨some 254, .p (.bin 3 .geq (.t 244) (.t 253)), some ⟨235, true⟩⟩,
    ⟨some 255, .p (.pick (.t 235) (.t 254) (.c (.bool false))), some ⟨230, false⟩⟩,
    ⟨some 256, .p (.pick (.t 230) (.c (.bool true)) (.t 255)), none⟩,
    ⟨some 225, .p (.mov (.t 256)), none⟩] [5, 6, 7, 8, 9, 12, 13, 225])
  c_ref10_Edits_k25) Q e H := by_refl rfl
theorem u_ref10_Edits_k27_e {P : Program} {Q : VEx → Env → List Ob → Prop} {e : Env} {H : List Ob} : vwp P c_ref10_Edits_k27 Q e H = vwp P (.cond (.t 191)
  c_ref10_Edits_b22
  c_ref10_Edits_b26) Q e H := by_refl rfl
theorem u_ref10_Edits_k28_e {P : Program} {Q : VEx → Env → List Ob → Prop} {e : Env} {H : List Ob} : vwp P c_ref10_Edits_k28 Q e H = vwp P (.block 11 (.block 12 (.seq (.draw 19 [⟨some 192, .p (.mov (.t 8)), none⟩,
    ⟨some 193, .p (.mov (.t 5)), none⟩,
    ⟨some 194, .p (.lenV (.t 193)), none⟩,
    ⟨some 195, .p (.bin 3 .lss (.t 192) (.t 194)), none⟩,
    ⟨some 196, .p (.mov (.t 195)), none⟩,
    ⟨some 197, .p (.mov (.t 9)), some ⟨196, true⟩⟩,
    ⟨some 198, .p (.mov (.t 6)), some ⟨196, true⟩⟩,
    ⟨some 199, .p (.lenV (.t 198)), some ⟨196, true⟩⟩,
    ⟨some 200, .p (.bin 3 .lss (.t 197) (.t 199)), some ⟨196, true⟩⟩,
    ⟨some 201, .p (.pick (.t 196) (.t 200) (.c (.bool false))), none⟩,
    ⟨some 202, .p (.mov (.t 201)), none⟩,
    ⟨some 203, .p (.mov (.t 5)), some ⟨202, true⟩⟩,
    ⟨some 204, .p (.mov (.t 8)), some ⟨202, true⟩⟩,
    ⟨some 205, .p (.idxA 1 (.t 203) (.t 204)), some ⟨202, true⟩⟩,
    ⟨some 206, .p (.load false 1 (.t 205)), some ⟨202, true⟩⟩,
    ⟨some 207, .p (.mov (.t 6)), some ⟨202, true⟩⟩,
    ⟨some 208, .p (.mov (.t 9)), some ⟨202, true⟩⟩,
    ⟨some 209, .p (.idxA 1 (.t 207) (.t 208)), some ⟨202, true⟩⟩,
    ⟨some 210, .p (.load false 1 (.t 209)), some ⟨202, true⟩⟩,
    ⟨some 211, .p (.bin 9 .eql (.t 206) (.t 210)), some ⟨202, true⟩⟩,
    ⟨some 212, .p (.pick (.t 202) (.t 211) (.c (.bool false))), none⟩,
    ⟨some 191, .p (.mov (.t 212)), none⟩] [5, 6, 7, 8, 9, 12, 13, 191])
  c_ref10_Edits_k27))) Q e H := by_refl rfl
theorem u_ref10_Edits_L29_e {P : Program} {Q : VEx → Env → List Ob → Prop} {e : Env} {H : List Ob} : vwp P c_ref10_Edits_L29 Q e H = vwp P (.seq (.seq (.ops [⟨some 171, .p (.mov (.t 8)), none⟩,
    ⟨some 172, .p (.mov (.t 5)), none⟩,
    ⟨some 173, .p (.lenV (.t 172)), none⟩,
    ⟨some 174, .p (.bin 3 .lss (.t 171) (.t 173)), none⟩,
    ⟨some 175, .p (.mov (.t 174)), none⟩,
    ⟨some 176, .p (.mov (.t 9)), some ⟨175, false⟩⟩,
    ⟨some 177, .p (.mov (.t 6)), some ⟨175, false⟩⟩,
    ⟨some 178, .p (.lenV (.t 177)), some ⟨175, false⟩⟩,
    ⟨some 179, .p (.bin 3 .lss (.t 176) (.t 178)), some ⟨175, false⟩⟩,
    ⟨some 180, .p (.pick (.t 175) (.c (.bool true)) (.t 179)), none⟩] [5, 6, 7, 8, 9, 12, 13, 180])
  (.cond (.t 180)
  (.skip)
  (.exit 10)))
  c_ref10_Edits_k28) Q e H := by_refl rfl
theorem u_ref10_Edits_k30_e {P : Program} {Q : VEx → Env → List Ob → Prop} {e : Env} {H : List Ob} : vwp P c_ref10_Edits_k30 Q e H = vwp P (.seq (.ops [⟨some 267, .p (.mov (.t 7)), none⟩,
    ⟨some 4, .p (.mov (.t 267)), none⟩] [4])
  (.ret)) Q e H := by_refl rfl
theorem u_ref10_Edits_k31_e {P : Program} {Q : VEx → Env → List Ob → Prop} {e : Env} {H : List Ob} : vwp P c_ref10_Edits_k31 Q e H = vwp P (.seq (.block 10 (.own 7 2 (.loop [5, 6, 7, 8, 9, 12, 13] c_ref10_Edits_L29)))
  c_ref10_Edits_k30) Q e H := by_refl rfl
theorem u_ref10_Edits_k32_e {P : Program} {Q : VEx → Env → List Ob → Prop} {e : Env} {H : List Ob} : vwp P c_ref10_Edits_k32 Q e H = vwp P (.seq (.seq (.ops [⟨some 100, .p (.mov (.t 5)), none⟩,
    ⟨some 101, .p (.lenV (.t 100)), none⟩,
    ⟨some 102, .p (.bin 3 .sub (.t 101) (.c (.int .i64 ((1 : Nat) : Int)))), none⟩,
    ⟨some 14, .p (.mov (.t 102)), none⟩] [5, 6, 7, 8, 9, 12, 13, 14])
  c_ref10_Edits_k21)
  c_ref10_Edits_k31) Q e H := by_refl rfl
theorem u_ref10_Edits_k33_e {P : Program} {Q : VEx → Env → List Ob → Prop} {e : Env} {H : List Ob} : vwp P c_ref10_Edits_k33 Q e H = vwp P (.seq (.ops [⟨some 94, .p (.mov (.t 5)), none⟩,
    ⟨some 95, .p (.lenV (.t 94)), none⟩,
    ⟨some 96, .p (.bin 3 .add (.t 95) (.c (.int .i64 ((1 : Nat) : Int)))), none⟩,
    ⟨some 97, .p (.mov (.t 12)), none⟩,
    ⟨some 98, .p (.bin 3 .mul (.t 96) (.t 97)), none⟩,
    ⟨some 99, .s (.mks 1 8 (.val (.int .i64 ((0 : Nat) : Int))) (.t 98) (.t 98)), none⟩,
    ⟨some 13, .p (.mov (.t 99)), none⟩] [5, 6, 7, 8, 9, 12, 13])
  c_ref10_Edits_k32) Q e H := by_refl rfl
theorem u_ref10_Edits_k34_e {P : Program} {Q : VEx → Env → List Ob → Prop} {e : Env} {H : List Ob} : vwp P c_ref10_Edits_k34 Q e H = vwp P (.seq (.ops [⟨some 91, .p (.mov (.t 6)), none⟩,
    ⟨some 92, .p (.lenV (.t 91)), none⟩,
    ⟨some 93, .p (.bin 3 .add (.t 92) (.c (.int .i64 ((1 : Nat) : Int)))), none⟩,
    ⟨some 12, .p (.mov (.t 93)), none⟩] [5, 6, 7, 8, 9, 12])
  c_ref10_Edits_k33) Q e H := by_refl rfl
theorem u_ref10_Edits_k35_e {P : Program} {Q : VEx → Env → List Ob → Prop} {e : Env} {H : List Ob} : vwp P c_ref10_Edits_k35 Q e H = vwp P (.seq (.seq (.ops [⟨some 21, .p (.mov (.t 5)), none⟩,
    ⟨some 22, .p (.lenV (.t 21)), none⟩,
    ⟨some 23, .p (.bin 3 .gtr (.t 22) (.c (.int .i64 ((2000 : Nat) : Int)))), none⟩,
    ⟨some 24, .p (.mov (.t 23)), none⟩,
    ⟨some 25, .p (.mov (.t 6)), some ⟨24, false⟩⟩,
    ⟨some 26, .p (.lenV (.t 25)), some ⟨24, false⟩⟩,
    ⟨some 27, .p (.bin 3 .gtr (.t 26) (.c (.int .i64 ((2000 : Nat) : Int)))), some ⟨24, false⟩⟩,
    ⟨some 28, .p (.pick (.t 24) (.c (.bool true)) (.t 27)), none⟩] [5, 6, 7, 8, 9, 28])
  c_ref10_Edits_k10)
  c_ref10_Edits_k34) Q e H := by_refl rfl
theorem u_ref10_Edits_k36_e {P : Program} {Q : VEx → Env → List Ob → Prop} {e : Env} {H : List Ob} : vwp P c_ref10_Edits_k36 Q e H = vwp P (.seq (.ops [⟨some 9, .p (.mov (.c (.int .i64 ((0 : Nat) : Int)))), none⟩] [5, 6, 7, 8, 9])
  c_ref10_Edits_k35) Q e H := by_refl rfl
theorem u_ref10_Edits_k37_e {P : Program} {Q : VEx → Env → List Ob → Prop} {e : Env} {H : List Ob} : vwp P c_ref10_Edits_k37 Q e H = vwp P (.seq (.ops [⟨some 8, .p (.mov (.c (.int .i64 ((0 : Nat) : Int)))), none⟩] [5, 6, 7, 8])
  c_ref10_Edits_k36) Q e H := by_refl rfl
theorem u_ref10_Edits_k38_e {P : Program} {Q : VEx → Env → List Ob → Prop} {e : Env} {H : List Ob} : vwp P c_ref10_Edits_k38 Q e H = vwp P (.seq (.ops [⟨some 7, .p (.mov (.c (.slice none 0 0))), none⟩] [5, 6, 7])
  c_ref10_Edits_k37) Q e H := by_refl rfl
theorem u_ref10_Edits_k39_e {P : Program} {Q : VEx → Env → List Ob → Prop} {e : Env} {H : List Ob} : vwp P c_ref10_Edits_k39 Q e H = vwp P (.seq (.ops [⟨some 19, .p (.mov (.t 1)), none⟩,
    ⟨some 20, .s (.call 118 [.t 19]), none⟩,
    ⟨some 6, .p (.mov (.t 20)), none⟩] [5, 6])
  c_ref10_Edits_k38) Q e H := by_refl rfl
theorem u_ref10_Edits_k40_e {P : Program} {Q : VEx → Env → List Ob → Prop} {e : Env} {H : List Ob} : vwp P c_ref10_Edits_k40 Q e H = vwp P (.seq (.ops [⟨some 17, .p (.mov (.t 0)), none⟩,
    ⟨some 18, .s (.call 118 [.t 17]), none⟩,
    ⟨some 5, .p (.mov (.t 18)), none⟩] [1, 5])
  c_ref10_Edits_k39) Q e H := by_refl rfl
theorem u_ref10_Edits_e {P : Program} {Q : VEx → Env → List Ob → Prop} {e : Env} {H : List Ob} : vwp P c_ref10_Edits Q e H = vwp P (.seq (.ops [⟨some 4, .p (.mov (.c (.slice none 0 0))), none⟩] [0, 1])
  c_ref10_Edits_k40) Q e H := by_refl rfl
theorem u_ref10_Edits_r {K : TV → Prop} {e : Env} {H : List Ob} : res r_ref10_Edits e H K = res [.tmp 4] e H K := by_refl rfl
def u_ref10_Edits := (And.intro (And.intro (And.intro (And.intro (And.intro (And.intro @u_ref10_Edits_L1_e @u_ref10_Edits_L2_e) (And.intro @u_ref10_Edits_k3_e @u_ref10_Edits_L4_e)) (And.intro (And.intro @u_ref10_Edits_k5_e @u_ref10_Edits_k6_e) (And.intro @u_ref10_Edits_k7_e @u_ref10_Edits_k8_e))) (And.intro (And.intro (And.intro @u_ref10_Edits_b9_e @u_ref10_Edits_k10_e) (And.intro @u_ref10_Edits_b11_e @u_ref10_Edits_b12_e)) (And.intro (And.intro @u_ref10_Edits_k13_e @u_ref10_Edits_k14_e) (And.intro @u_ref10_Edits_k15_e @u_ref10_Edits_L16_e)))) (And.intro (And.intro (And.intro (And.intro @u_ref10_Edits_k17_e @u_ref10_Edits_k18_e) (And.intro @u_ref10_Edits_k19_e @u_ref10_Edits_L20_e)) (And.intro (And.intro @u_ref10_Edits_k21_e @u_ref10_Edits_b22_e) (And.intro @u_ref10_Edits_b23_e @u_ref10_Edits_b24_e))) (And.intro (And.intro (And.intro @u_ref10_Edits_k25_e @u_ref10_Edits_b26_e) (And.intro @u_ref10_Edits_k27_e @u_ref10_Edits_k28_e)) (And.intro (And.intro @u_ref10_Edits_L29_e @u_ref10_Edits_k30_e) (And.intro @u_ref10_Edits_k31_e @u_ref10_Edits_k32_e))))) (And.intro (And.intro (And.intro (And.intro @u_ref10_Edits_k33_e @u_ref10_Edits_k34_e) (And.intro @u_ref10_Edits_k35_e @u_ref10_Edits_k36_e)) (And.intro (And.intro @u_ref10_Edits_k37_e @u_ref10_Edits_k38_e) (And.intro @u_ref10_Edits_k39_e @u_ref10_Edits_k40_e))) (And.intro @u_ref10_Edits_e @u_ref10_Edits_r)))
theorem go_ref10_Edits {args : List TV} {H : List Ob} {R : TV → List Ob → Prop} (hn : args.length ≤ 268) (h : vwp Tryd.prog c_ref10_Edits (atEnd r_ref10_Edits R) (argsE 0 args) H) : VCalls Tryd.prog 60 args H R := vcalls_of Tryd.func60 t_ref10_Edits w_ref10_Edits hn h

/-! bytes.Lines -/
def c_bytes_Lines : VCode := .seq (.ops [⟨some 1, .s (.box (.t 0)), none⟩,
    ⟨some 2, .p (.mov (.c .nilFunc)), none⟩] [1])
  (.seq (.ops [⟨some 3, .p (.mkf (.func 205) [] [.t 1]), none⟩,
    ⟨some 2, .p (.mov (.t 3)), none⟩] [2])
  (.ret))
def r_bytes_Lines : List VR := [.tmp 2]
theorem t_bytes_Lines : Tryd.f175.body.bind (trC Tryd.prog Tryd.f175.ntmps) = some (er c_bytes_Lines) := by kernel_rfl
theorem w_bytes_Lines : trR Tryd.prog Tryd.f175.results.toList = some r_bytes_Lines := by kernel_rfl
theorem u_bytes_Lines_e {P : Program} {Q : VEx → Env → List Ob → Prop} {e : Env} {H : List Ob} : vwp P c_bytes_Lines Q e H = vwp P (.seq (.ops [⟨some 1, .s (.box (.t 0)), none⟩,
    ⟨some 2, .p (.mov (.c .nilFunc)), none⟩] [1])
  (.seq (.ops [⟨some 3, .p (.mkf (.func 205) [] [.t 1]), none⟩,
    ⟨some 2, .p (.mov (.t 3)), none⟩] [2])
  (.ret))) Q e H := by_refl rfl
theorem u_bytes_Lines_r {K : TV → Prop} {e : Env} {H : List Ob} : res r_bytes_Lines e H K = res [.tmp 2] e H K := by_refl rfl
def u_bytes_Lines := (And.intro @u_bytes_Lines_e @u_bytes_Lines_r)
theorem go_bytes_Lines {args : List TV} {H : List Ob} {R : TV → List Ob → Prop} (hn : args.length ≤ 4) (h : vwp Tryd.prog c_bytes_Lines (atEnd r_bytes_Lines R) (argsE 0 args) H) : VCalls Tryd.prog 175 args H R := vcalls_of Tryd.func175 t_bytes_Lines w_bytes_Lines hn h

/-! bytes.Lines$1 -/
def c_bytes_Lines_1_b1 : VCode := .draw 8 [⟨some 12, .p (.load false 1 (.t 1)), none⟩,
    ⟨some 13, .p (.mov (.t 4)), none⟩,
    ⟨some 14, .p (.bin 3 .add (.t 13) (.c (.int .i64 ((1 : Nat) : Int)))), none⟩,
    ⟨some 15, .p (.slV 1 (.t 12) none (some (.t 14))), none⟩,
    ⟨some 16, .p (.load false 1 (.t 1)), none⟩,
    ⟨some 17, .p (.mov (.t 4)), none⟩,
    ⟨some 18, .p (.bin 3 .add (.t 17) (.c (.int .i64 ((1 : Nat) : Int)))), none⟩,
    ⟨some 19, .p (.slV 1 (.t 16) (some (.t 18)) none), none⟩,
    ⟨some 3, .p (.mov (.t 15)), none⟩,
    ⟨none, .s (.store 1 (.t 1) (.t 19)), none⟩] [0, 1, 3]
def c_bytes_Lines_1_k2 : VCode := .cond (.t 11)
  c_bytes_Lines_1_b1
  (.ops [⟨some 20, .p (.load false 1 (.t 1)), none⟩,
      ⟨some 3, .p (.mov (.t 20)), none⟩,
      ⟨none, .s (.store 1 (.t 1) (.c (.slice none 0 0))), none⟩] [0, 1, 3])
def c_bytes_Lines_1_k3 : VCode := .seq (.ops [⟨some 10, .p (.mov (.t 4)), none⟩,
    ⟨some 11, .p (.bin 3 .geq (.t 10) (.c (.int .i64 ((0 : Nat) : Int)))), none⟩] [0, 1, 4, 11])
  c_bytes_Lines_1_k2
def c_bytes_Lines_1_k4 : VCode := .seq (.seq (.ops [⟨some 8, .p (.load false 1 (.t 1)), none⟩,
    ⟨some 9, .s (.call 206 [.t 8, .c (.int .u8 ((10 : Nat) : Int))]), none⟩,
    ⟨some 4, .p (.mov (.t 9)), none⟩] [0, 1, 4])
  c_bytes_Lines_1_k3)
  (.seq (.ops [⟨some 21, .p (.mov (.t 0)), none⟩,
    ⟨some 22, .p (.mov (.t 3)), none⟩,
    ⟨some 23, .p (.mov (.t 3)), none⟩,
    ⟨some 24, .p (.lenV (.t 23)), none⟩,
    ⟨some 25, .p (.mov (.t 3)), none⟩,
    ⟨some 26, .p (.lenV (.t 25)), none⟩,
    ⟨some 27, .p (.gen (.sl3 1) [.t 22, .c (.int .i64 ((0 : Nat) : Int)), .t 24, .t 26]), none⟩,
    ⟨some 28, .s (.callv (.t 21) [.t 27]), none⟩,
    ⟨some 29, .p (.un .not (.t 28)), none⟩] [0, 1, 29])
  (.cond (.t 29)
  (.ret)
  (.skip)))
def c_bytes_Lines_1_k5 : VCode := .block 1 (.seq (.ops [⟨some 3, .p (.mov (.c (.slice none 0 0))), none⟩] [0, 1])
  c_bytes_Lines_1_k4)
def c_bytes_Lines_1_L6 : VCode := .seq (.seq (.ops [⟨some 5, .p (.load false 1 (.t 1)), none⟩,
    ⟨some 6, .p (.lenV (.t 5)), none⟩,
    ⟨some 7, .p (.bin 3 .gtr (.t 6) (.c (.int .i64 ((0 : Nat) : Int)))), none⟩] [0, 1, 7])
  (.cond (.t 7)
  (.skip)
  (.exit 0)))
  c_bytes_Lines_1_k5
def c_bytes_Lines_1 : VCode := .block 0 (.loop [0, 1] c_bytes_Lines_1_L6)
def r_bytes_Lines_1 : List VR := []
theorem t_bytes_Lines_1 : Tryd.f205.body.bind (trC Tryd.prog Tryd.f205.ntmps) = some (er c_bytes_Lines_1) := by kernel_rfl
theorem w_bytes_Lines_1 : trR Tryd.prog Tryd.f205.results.toList = some r_bytes_Lines_1 := by kernel_rfl
theorem u_bytes_Lines_1_b1_e {P : Program} {Q : VEx → Env → List Ob → Prop} {e : Env} {H : List Ob} : vwp P c_bytes_Lines_1_b1 Q e H = vwp P (.draw 8 [⟨some 12, .p (.load false 1 (.t 1)), none⟩,
    ⟨some 13, .p (.mov (.t 4)), none⟩,
    ⟨some 14, .p (.bin 3 .add (.t 13) (.c (.int .i64 ((1 : Nat) : Int)))), none⟩,
    ⟨some 15, .p (.slV 1 (.t 12) none (some (.t 14))), none⟩,
    ⟨some 16, .p (.load false 1 (.t 1)), none⟩,
    ⟨some 17, .p (.mov (.t 4)), none⟩,
    ⟨some 18, .p (.bin 3 .add (.t 17) (.c (.int .i64 ((1 : Nat) : Int)))), none⟩,
    ⟨some 19, .p (.slV 1 (.t 16) (some (.t 18)) none), none⟩,
    ⟨some 3, .p (.mov (.t 15)), none⟩,
    ⟨none, .s (.store 1 (.t 1) (.t 19)), none⟩] [0, 1, 3]) Q e H := by_refl rfl
theorem u_bytes_Lines_1_k2_e {P : Program} {Q : VEx → Env → List Ob → Prop} {e : Env} {H : List Ob} : vwp P c_bytes_Lines_1_k2 Q e H = vwp P (.cond (.t 11)
  c_bytes_Lines_1_b1
  (.ops [⟨some 20, .p (.load false 1 (.t 1)), none⟩,
      ⟨some 3, .p (.mov (.t 20)), none⟩,
      ⟨none, .s (.store 1 (.t 1) (.c (.slice none 0 0))), none⟩] [0, 1, 3])) Q e H := by_refl rfl
theorem u_bytes_Lines_1_k3_e {P : Program} {Q : VEx → Env → List Ob → Prop} {e : Env} {H : List Ob} : vwp P c_bytes_Lines_1_k3 Q e H = vwp P (.seq (.ops [⟨some 10, .p (.mov (.t 4)), none⟩,
    ⟨some 11, .p (.bin 3 .geq (.t 10) (.c (.int .i64 ((0 : Nat) : Int)))), none⟩] [0, 1, 4, 11])
  c_bytes_Lines_1_k2) Q e H := by_refl rfl
theorem u_bytes_Lines_1_k4_e {P : Program} {Q : VEx → Env → List Ob → Prop} {e : Env} {H : List Ob} : vwp P c_bytes_Lines_1_k4 Q e H = vwp P (.seq (.seq (.ops [⟨some 8, .p (.load false 1 (.t 1)), none⟩,
    ⟨some 9, .s (.call 206 [.t 8, .c (.int .u8 ((10 : Nat) : Int))]), none⟩,
    ⟨some 4, .p (.mov (.t 9)), none⟩] [0, 1, 4])
  c_bytes_Lines_1_k3)
  (.seq (.ops [⟨some 21, .p (.mov (.t 0)), none⟩,
    ⟨some 22, .p (.mov (.t 3)), none⟩,
    ⟨some 23, .p (.mov (.t 3)), none⟩,
    ⟨some 24, .p (.lenV (.t 23)), none⟩,
    ⟨some 25, .p (.mov (.t 3)), none⟩,
    ⟨some 26, .p (.lenV (.t 25)), none⟩,
    ⟨some 27, .p (.gen (.sl3 1) [.t 22, .c (.int .i64 ((0 : Nat) : Int)), .t 24, .t 26]), none⟩,
    ⟨some 28, .s (.callv (.t 21) [.t 27]), none⟩,
    ⟨some 29, .p (.un .not (.t 28)), none⟩] [0, 1, 29])
  (.cond (.t 29)
  (.ret)
  (.skip)))) Q e H := by_refl rfl
theorem u_bytes_Lines_1_k5_e {P : Program} {Q : VEx → Env → List Ob → Prop} {e : Env} {H : List Ob} : vwp P c_bytes_Lines_1_k5 Q e H = vwp P (.block 1 (.seq (.ops [⟨some 3, .p (.mov (.c (.slice none 0 0))), none⟩] [0, 1])
  c_bytes_Lines_1_k4)) Q e H := by_refl rfl
theorem u_bytes_Lines_1_L6_e {P : Program} {Q : VEx → Env → List Ob → Prop} {e : Env} {H : List Ob} : vwp P c_bytes_Lines_1_L6 Q e H = vwp P (.seq (.seq (.ops [⟨some 5, .p (.load false 1 (.t 1)), none⟩,
    ⟨some 6, .p (.lenV (.t 5)), none⟩,
    ⟨some 7, .p (.bin 3 .gtr (.t 6) (.c (.int .i64 ((0 : Nat) : Int)))), none⟩] [0, 1, 7])
  (.cond (.t 7)
  (.skip)
  (.exit 0)))
  c_bytes_Lines_1_k5) Q e H := by_refl rfl
theorem u_bytes_Lines_1_e {P : Program} {Q : VEx → Env → List Ob → Prop} {e : Env} {H : List Ob} : vwp P c_bytes_Lines_1 Q e H = vwp P (.block 0 (.loop [0, 1] c_bytes_Lines_1_L6)) Q e H := by_refl rfl
theorem u_bytes_Lines_1_r {K : TV → Prop} {e : Env} {H : List Ob} : res r_bytes_Lines_1 e H K = res [] e H K := by_refl rfl
def u_bytes_Lines_1 := (And.intro (And.intro (And.intro @u_bytes_Lines_1_b1_e @u_bytes_Lines_1_k2_e) (And.intro @u_bytes_Lines_1_k3_e @u_bytes_Lines_1_k4_e)) (And.intro (And.intro @u_bytes_Lines_1_k5_e @u_bytes_Lines_1_L6_e) (And.intro @u_bytes_Lines_1_e @u_bytes_Lines_1_r)))
theorem go_bytes_Lines_1 {args : List TV} {H : List Ob} {R : TV → List Ob → Prop} (hn : args.length ≤ 30) (h : vwp Tryd.prog c_bytes_Lines_1 (atEnd r_bytes_Lines_1 R) (argsE 0 args) H) : VCalls Tryd.prog 205 args H R := vcalls_of Tryd.func205 t_bytes_Lines_1 w_bytes_Lines_1 hn h

end Go.Proofs.YtijidndhlgbjhaaDoor
