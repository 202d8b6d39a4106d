/- The code of some functions, as the machine of values has it: printed by vm.py out of the program; each is the program's own (t_..: by the kernel). -/
import Derived.Test.YtijidndhlgbjhaaDoorBaseC
import Derived.Test.YtijidndhlgbjhaaDoorProg
import Derived.KernelRfl
namespace Go.Proofs.YtijidndhlgbjhaaDoor
variable [Globs]
set_option linter.unusedSectionVars false
set_option linter.unusedVariables false
set_option linter.defProp false
set_option maxRecDepth 100000

/-! gitlike/diff.Patch -/
def c_diff_Patch_L1 : VCode := .seq (.ops [⟨some 19, .p (.bin 3 .lss (.t 18) (.t 17)), none⟩] [7, 16, 17, 18, 19])
  (.seq (.cond (.t 19)
  (.skip)
  (.exit 0))
  (.seq (.block 1 (.seq (.ops [⟨some 20, .p (.idxA 3 (.t 16) (.t 18)), none⟩,
    ⟨some 21, .p (.load true 3 (.t 20)), none⟩,
    ⟨some 9, .s (.alloc (.agg [.val (.int .i64 ((0 : Nat) : Int)), .val (.int .i64 ((0 : Nat) : Int)), .val (.slice none 0 0)])), none⟩,
    ⟨none, .s (.store 3 (.t 9) (.t 21)), none⟩] [7, 9, 16, 17, 18])
  (.ops [⟨some 22, .p (.load true 3 (.t 9)), none⟩,
    ⟨some 23, .s (.call 58 [.t 22, .t 7]), none⟩] [7, 16, 17, 18])))
  (.ops [⟨some 24, .p (.bin 3 .add (.t 18) (.c (.int .i64 ((1 : Nat) : Int)))), none⟩,
    ⟨some 18, .p (.mov (.t 24)), none⟩] [7, 16, 17, 18])))
def c_diff_Patch_k2 : VCode := .seq (.ops [⟨some 25, .s (.bstr 59 (.t 7)), none⟩,
    ⟨some 26, .s (.s2b (.t 25)), none⟩,
    ⟨some 6, .p (.mov (.t 26)), none⟩] [6])
  (.ret)
def c_diff_Patch_k3 : VCode := .seq (.seq (.ops [⟨some 10, .p (.mov (.t 0)), none⟩,
    ⟨some 11, .p (.mov (.t 1)), none⟩,
    ⟨some 12, .s (.call 57 [.t 10, .t 11]), none⟩,
    ⟨some 13, .p (.mov (.t 2)), none⟩,
    ⟨some 14, .p (.max (.t 13) (.c (.int .i64 ((0 : Nat) : Int)))), none⟩,
    ⟨some 15, .p (.min (.t 14) (.c (.int .i64 ((1000 : Nat) : Int)))), none⟩,
    ⟨some 16, .s (.call 56 [.t 12, .t 15]), none⟩,
    ⟨some 17, .p (.lenV (.t 16)), none⟩,
    ⟨some 18, .p (.mov (.c (.int .i64 ((0 : Nat) : Int)))), none⟩] [7, 16, 17, 18])
  (.block 0 (.ownT 7 [(1, 1)] 5 (.loop [7, 16, 17, 18] c_diff_Patch_L1))))
  c_diff_Patch_k2
def c_diff_Patch_k4 : VCode := .seq (.ops [⟨some 7, .s (.allocT (.agg [.val (.pointer none), .val (.slice none 0 0)]) 91), none⟩] [0, 1, 2, 7])
  c_diff_Patch_k3
def c_diff_Patch : VCode := .seq (.ops [⟨some 6, .p (.mov (.c (.slice none 0 0))), none⟩] [0, 1, 2])
  c_diff_Patch_k4
def r_diff_Patch : List VR := [.tmp 6]
theorem t_diff_Patch : Tryd.f19.body.bind (trC Tryd.prog Tryd.f19.ntmps) = some (er c_diff_Patch) := by kernel_rfl
theorem w_diff_Patch : trR Tryd.prog Tryd.f19.results.toList = some r_diff_Patch := by kernel_rfl
theorem u_diff_Patch_L1_e {P : Program} {Q : VEx → Env → List Ob → Prop} {e : Env} {H : List Ob} : vwp P c_diff_Patch_L1 Q e H = vwp P (.seq (.ops [⟨some 19, .p (.bin 3 .lss (.t 18) (.t 17)), none⟩] [7, 16, 17, 18, 19])
  (.seq (.cond (.t 19)
  (.skip)
  (.exit 0))
  (.seq (.block 1 (.seq (.ops [⟨some 20, .p (.idxA 3 (.t 16) (.t 18)), none⟩,
    ⟨some 21, .p (.load true 3 (.t 20)), none⟩,
    ⟨some 9, .s (.alloc (.agg [.val (.int .i64 ((0 : Nat) : Int)), .val (.int .i64 ((0 : Nat) : Int)), .val (.slice none 0 0)])), none⟩,
    ⟨none, .s (.store 3 (.t 9) (.t 21)), none⟩] [7, 9, 16, 17, 18])
  (.ops [⟨some 22, .p (.load true 3 (.t 9)), none⟩,
    ⟨some 23, .s (.call 58 [.t 22, .t 7]), none⟩] [7, 16, 17, 18])))
  (.ops [⟨some 24, .p (.bin 3 .add (.t 18) (.c (.int .i64 ((1 : Nat) : Int)))), none⟩,
    ⟨some 18, .p (.mov (.t 24)), none⟩] [7, 16, 17, 18])))) Q e H := by_refl rfl
theorem u_diff_Patch_k2_e {P : Program} {Q : VEx → Env → List Ob → Prop} {e : Env} {H : List Ob} : vwp P c_diff_Patch_k2 Q e H = vwp P (.seq (.ops [⟨some 25, .s (.bstr 59 (.t 7)), none⟩,
    ⟨some 26, .s (.s2b (.t 25)), none⟩,
    ⟨some 6, .p (.mov (.t 26)), none⟩] [6])
  (.ret)) Q e H := by_refl rfl
theorem u_diff_Patch_k3_e {P : Program} {Q : VEx → Env → List Ob → Prop} {e : Env} {H : List Ob} : vwp P c_diff_Patch_k3 Q e H = vwp P (.seq (.seq (.ops [⟨some 10, .p (.mov (.t 0)), none⟩,
    ⟨some 11, .p (.mov (.t 1)), none⟩,
    ⟨some 12, .s (.call 57 [.t 10, .t 11]), none⟩,
    ⟨some 13, .p (.mov (.t 2)), none⟩,
    ⟨some 14, .p (.max (.t 13) (.c (.int .i64 ((0 : Nat) : Int)))), none⟩,
    ⟨some 15, .p (.min (.t 14) (.c (.int .i64 ((1000 : Nat) : Int)))), none⟩,
    ⟨some 16, .s (.call 56 [.t 12, .t 15]), none⟩,
    ⟨some 17, .p (.lenV (.t 16)), none⟩,
    ⟨some 18, .p (.mov (.c (.int .i64 ((0 : Nat) : Int)))), none⟩] [7, 16, 17, 18])
  (.block 0 (.ownT 7 [(1, 1)] 5 (.loop [7, 16, 17, 18] c_diff_Patch_L1))))
  c_diff_Patch_k2) Q e H := by_refl rfl
theorem u_diff_Patch_k4_e {P : Program} {Q : VEx → Env → List Ob → Prop} {e : Env} {H : List Ob} : vwp P c_diff_Patch_k4 Q e H = vwp P (.seq (.ops [⟨some 7, .s (.allocT (.agg [.val (.pointer none), .val (.slice none 0 0)]) 91), none⟩] [0, 1, 2, 7])
  c_diff_Patch_k3) Q e H := by_refl rfl
theorem u_diff_Patch_e {P : Program} {Q : VEx → Env → List Ob → Prop} {e : Env} {H : List Ob} : vwp P c_diff_Patch Q e H = vwp P (.seq (.ops [⟨some 6, .p (.mov (.c (.slice none 0 0))), none⟩] [0, 1, 2])
  c_diff_Patch_k4) Q e H := by_refl rfl
theorem u_diff_Patch_r {K : TV → Prop} {e : Env} {H : List Ob} : res r_diff_Patch e H K = res [.tmp 6] e H K := by_refl rfl
def u_diff_Patch := (And.intro (And.intro (And.intro @u_diff_Patch_L1_e @u_diff_Patch_k2_e) (And.intro @u_diff_Patch_k3_e @u_diff_Patch_k4_e)) (And.intro @u_diff_Patch_e @u_diff_Patch_r))
theorem go_diff_Patch {args : List TV} {H : List Ob} {R : TV → List Ob → Prop} (hn : args.length ≤ 27) (h : vwp Tryd.prog c_diff_Patch (atEnd r_diff_Patch R) (argsE 0 args) H) : VCalls Tryd.prog 19 args H R := vcalls_of Tryd.func19 t_diff_Patch w_diff_Patch hn h

/-! gitlike/diff.hunks -/
def c_diff_hunks_k1 : VCode := .seq (.block 1 (.seq (.ops [⟨some 18, .p (.mov (.t 16)), none⟩,
    ⟨some 19, .p (.idxA 2 (.t 14) (.t 16)), none⟩,
    ⟨some 20, .p (.load true 2 (.t 19)), none⟩,
    ⟨some 8, .s (.alloc (.agg [.val (.int .i64 ((0 : Nat) : Int)), .val (.string (str []))])), none⟩,
    ⟨some 7, .p (.mov (.t 18)), none⟩,
    ⟨none, .s (.store 2 (.t 8) (.t 20)), none⟩] [0, 1, 5, 6, 7, 8, 14, 15, 16])
  (.seq (.ops [⟨some 21, .p (.fieldA 0 0 (.t 8)), none⟩,
    ⟨some 22, .p (.load false 1 (.t 21)), none⟩,
    ⟨some 23, .p (.bin 172 .neq (.t 22) (.c (.int .i64 ((0 : Nat) : Int)))), none⟩] [0, 1, 5, 6, 7, 14, 15, 16, 23])
  (.cond (.t 23)
  (.ops [⟨some 24, .p (.mov (.t 6)), none⟩,
      ⟨some 25, .p (.mov (.t 7)), none⟩,
      ⟨some 26, .s (.bslice 1 1 (.val (.int .i64 ((0 : Nat) : Int))) [⟨0, .t 25⟩]), none⟩,
      ⟨some 27, .s (.app 1 8 3 (.t 24) (.t 26)), none⟩,
      ⟨some 6, .p (.mov (.t 27)), none⟩] [0, 1, 5, 6, 14, 15, 16])
  (.skip)))))
  (.ops [⟨some 28, .p (.bin 3 .add (.t 16) (.c (.int .i64 ((1 : Nat) : Int)))), none⟩,
    ⟨some 16, .p (.mov (.t 28)), none⟩] [0, 1, 5, 6, 14, 15, 16])
def c_diff_hunks_k2 : VCode := .seq (.cond (.t 17)
  (.skip)
  (.exit 0))
  c_diff_hunks_k1
def c_diff_hunks_L3 : VCode := .seq (.ops [⟨some 17, .p (.bin 3 .lss (.t 16) (.t 15)), none⟩] [0, 1, 5, 6, 14, 15, 16, 17])
  c_diff_hunks_k2
def c_diff_hunks_k4 : VCode := .block 0 (.own 6 1 (.loop [0, 1, 5, 6, 14, 15, 16] c_diff_hunks_L3))
def c_diff_hunks_L5 : VCode := .seq (.seq (.draw 18 [⟨some 32, .p (.mov (.t 9)), none⟩,
    ⟨some 33, .p (.mov (.t 6)), none⟩,
    ⟨some 34, .p (.lenV (.t 33)), none⟩,
    ⟨some 35, .p (.bin 3 .lss (.t 32) (.t 34)), none⟩,
    ⟨some 36, .p (.mov (.t 35)), none⟩,
    ⟨some 37, .p (.mov (.t 6)), some ⟨36, true⟩⟩,
    ⟨some 38, .p (.mov (.t 9)), some ⟨36, true⟩⟩,
    ⟨some 39, .p (.idxA 1 (.t 37) (.t 38)), some ⟨36, true⟩⟩,
    ⟨some 40, .p (.load false 1 (.t 39)), some ⟨36, true⟩⟩,
    ⟨some 41, .p (.mov (.t 6)), some ⟨36, true⟩⟩,
    ⟨some 42, .p (.mov (.t 9)), some ⟨36, true⟩⟩,
    ⟨some 43, .p (.bin 3 .sub (.t 42) (.c (.int .i64 ((1 : Nat) : Int)))), some ⟨36, true⟩⟩,
    ⟨some 44, .p (.idxA 1 (.t 41) (.t 43)), some ⟨36, true⟩⟩,
    ⟨some 45, .p (.load false 1 (.t 44)), some ⟨36, true⟩⟩,
    ⟨some 46, .p (.bin 3 .sub (.t 40) (.t 45)), some ⟨36, true⟩⟩,
    ⟨some 47, .p (.bin 3 .sub (.t 46) (.c (.int .i64 ((1 : Nat) : Int)))), some ⟨36, true⟩⟩,
    ⟨some 48, .p (.mov (.t 1)), some ⟨36, true⟩⟩,
    ⟨some 49, .p (.bin 3 .mul (.c (.int .i64 ((2 : Nat) : Int))) (.t 48)), some ⟨36, true⟩⟩,
    ⟨some 50, .p (.bin 3 .leq (.t 47) (.t 49)), some ⟨36, true⟩⟩,
    ⟨some 51, .p (.pick (.t 36) (.t 50) (.c (.bool false))), none⟩] [0, 1, 5, 6, 9, 51])
  (.cond (.t 51)
  (.skip)
  (.exit 4)))
  (.block 5 (.ops [⟨some 52, .p (.mov (.t 9)), none⟩,
    ⟨some 53, .p (.bin 3 .add (.t 52) (.c (.int .i64 ((1 : Nat) : Int)))), none⟩,
    ⟨some 9, .p (.mov (.t 53)), none⟩] [0, 1, 5, 6, 9]))
def c_diff_hunks_k6 : VCode := .seq (.ops [⟨some 79, .p (.mov (.t 5)), none⟩,
    ⟨some 80, .p (.mov (.t 12)), none⟩,
    ⟨some 81, .p (.mov (.t 13)), none⟩,
    ⟨some 82, .p (.mov (.t 0)), none⟩,
    ⟨some 83, .p (.mov (.t 10)), none⟩,
    ⟨some 84, .p (.mov (.t 11)), none⟩,
    ⟨some 85, .p (.slV 2 (.t 82) (some (.t 83)) (some (.t 84))), none⟩,
    ⟨some 86, .p (.build [.val (.int .i64 ((0 : Nat) : Int)), .val (.int .i64 ((0 : Nat) : Int)), .val (.slice none 0 0)] [1, 1, 1] [⟨0, .t 80⟩, ⟨1, .t 81⟩, ⟨2, .t 85⟩]), none⟩,
    ⟨some 87, .s (.bslice 3 1 (.agg [.val (.int .i64 ((0 : Nat) : Int)), .val (.int .i64 ((0 : Nat) : Int)), .val (.slice none 0 0)]) [⟨0, .t 86⟩]), none⟩,
    ⟨some 88, .s (.app 3 40 97 (.t 79) (.t 87)), none⟩,
    ⟨some 5, .p (.mov (.t 88)), none⟩] [0, 1, 5, 6, 9])
  (.ops [⟨some 89, .p (.mov (.t 6)), none⟩,
    ⟨some 90, .p (.mov (.t 9)), none⟩,
    ⟨some 91, .p (.slV 1 (.t 89) (some (.t 90)) none), none⟩,
    ⟨some 6, .p (.mov (.t 91)), none⟩] [0, 1, 5, 6])
def c_diff_hunks_k7 : VCode := .seq (.ops [⟨some 72, .p (.mov (.t 0)), none⟩,
    ⟨some 73, .p (.mov (.t 10)), none⟩,
    ⟨some 74, .p (.slV 2 (.t 72) none (some (.t 73))), none⟩,
    ⟨some 75, .p (.build [.val (.int .i64 ((0 : Nat) : Int)), .val (.int .i64 ((0 : Nat) : Int)), .val (.slice none 0 0)] [1, 1, 1] [⟨2, .t 74⟩]), none⟩,
    ⟨some 76, .s (.call 111 [.t 75]), none⟩,
    ⟨some 71, .p (.mov (.t 76)), none⟩,
    ⟨some 77, .p (.ext 0 (.t 71)), none⟩,
    ⟨some 78, .p (.ext 1 (.t 71)), none⟩,
    ⟨some 12, .p (.mov (.t 77)), none⟩,
    ⟨some 13, .p (.mov (.t 78)), none⟩] [0, 1, 5, 6, 9, 10, 11, 12, 13])
  c_diff_hunks_k6
def c_diff_hunks_k8 : VCode := .seq (.draw 17 [⟨some 54, .p (.mov (.t 6)), none⟩,
    ⟨some 55, .p (.idxA 1 (.t 54) (.c (.int .i64 ((0 : Nat) : Int)))), none⟩,
    ⟨some 56, .p (.load false 1 (.t 55)), none⟩,
    ⟨some 57, .p (.mov (.t 1)), none⟩,
    ⟨some 58, .p (.bin 3 .sub (.t 56) (.t 57)), none⟩,
    ⟨some 59, .p (.max (.c (.int .i64 ((0 : Nat) : Int))) (.t 58)), none⟩,
    ⟨some 60, .p (.mov (.t 0)), none⟩,
    ⟨some 61, .p (.lenV (.t 60)), none⟩,
    ⟨some 62, .p (.mov (.t 6)), none⟩,
    ⟨some 63, .p (.mov (.t 9)), none⟩,
    ⟨some 64, .p (.bin 3 .sub (.t 63) (.c (.int .i64 ((1 : Nat) : Int)))), none⟩,
    ⟨some 65, .p (.idxA 1 (.t 62) (.t 64)), none⟩,
    ⟨some 66, .p (.load false 1 (.t 65)), none⟩,
    ⟨some 67, .p (.bin 3 .add (.t 66) (.c (.int .i64 ((1 : Nat) : Int)))), none⟩,
    ⟨some 68, .p (.mov (.t 1)), none⟩,
    ⟨some 69, .p (.bin 3 .add (.t 67) (.t 68)), none⟩,
    ⟨some 70, .p (.min (.t 61) (.t 69)), none⟩,
    ⟨some 10, .p (.mov (.t 59)), none⟩,
    ⟨some 11, .p (.mov (.t 70)), none⟩] [0, 1, 5, 6, 9, 10, 11])
  c_diff_hunks_k7
def c_diff_hunks_k9 : VCode := .seq (.block 4 (.loop [0, 1, 5, 6, 9] c_diff_hunks_L5))
  c_diff_hunks_k8
def c_diff_hunks_k10 : VCode := .block 3 (.seq (.ops [⟨some 9, .p (.mov (.c (.int .i64 ((1 : Nat) : Int)))), none⟩] [0, 1, 5, 6, 9])
  c_diff_hunks_k9)
def c_diff_hunks_L11 : VCode := .seq (.seq (.ops [⟨some 29, .p (.mov (.t 6)), none⟩,
    ⟨some 30, .p (.lenV (.t 29)), none⟩,
    ⟨some 31, .p (.bin 3 .gtr (.t 30) (.c (.int .i64 ((0 : Nat) : Int)))), none⟩] [0, 1, 5, 6, 31])
  (.cond (.t 31)
  (.skip)
  (.exit 2)))
  c_diff_hunks_k10
def c_diff_hunks_k12 : VCode := .seq (.ops [⟨some 92, .p (.mov (.t 5)), none⟩,
    ⟨some 4, .p (.mov (.t 92)), none⟩] [4])
  (.ret)
def c_diff_hunks_k13 : VCode := .seq (.block 2 (.own 5 3 (.loop [0, 1, 5, 6] c_diff_hunks_L11)))
  c_diff_hunks_k12
def c_diff_hunks_k14 : VCode := .seq (.seq (.ops [⟨some 14, .p (.mov (.t 0)), none⟩,
    ⟨some 15, .p (.lenV (.t 14)), none⟩,
    ⟨some 16, .p (.mov (.c (.int .i64 ((0 : Nat) : Int)))), none⟩] [0, 1, 5, 6, 14, 15, 16])
  c_diff_hunks_k4)
  c_diff_hunks_k13
def c_diff_hunks_k15 : VCode := .seq (.ops [⟨some 6, .p (.mov (.c (.slice none 0 0))), none⟩] [0, 1, 5, 6])
  c_diff_hunks_k14
def c_diff_hunks_k16 : VCode := .seq (.ops [⟨some 5, .p (.mov (.c (.slice none 0 0))), none⟩] [0, 1, 5])
  c_diff_hunks_k15
def c_diff_hunks : VCode := .seq (.ops [⟨some 4, .p (.mov (.c (.slice none 0 0))), none⟩] [0, 1])
  c_diff_hunks_k16
def r_diff_hunks : List VR := [.tmp 4]
theorem t_diff_hunks : Tryd.f56.body.bind (trC Tryd.prog Tryd.f56.ntmps) = some (er c_diff_hunks) := by kernel_rfl
theorem w_diff_hunks : trR Tryd.prog Tryd.f56.results.toList = some r_diff_hunks := by kernel_rfl
theorem u_diff_hunks_k1_e {P : Program} {Q : VEx → Env → List Ob → Prop} {e : Env} {H : List Ob} : vwp P c_diff_hunks_k1 Q e H = vwp P (.seq (.block 1 (.seq (.ops [⟨some 18, .p (.mov (.t 16)), none⟩,
    ⟨some 19, .p (.idxA 2 (.t 14) (.t 16)), none⟩,
    ⟨some 20, .p (.load true 2 (.t 19)), none⟩,
    ⟨some 8, .s (.alloc (.agg [.val (.int .i64 ((0 : Nat) : Int)), .val (.string (str []))])), none⟩,
    ⟨some 7, .p (.mov (.t 18)), none⟩,
    ⟨none, .s (.store 2 (.t 8) (.t 20)), none⟩] [0, 1, 5, 6, 7, 8, 14, 15, 16])
  (.seq (.ops [⟨some 21, .p (.fieldA 0 0 (.t 8)), none⟩,
    ⟨some 22, .p (.load false 1 (.t 21)), none⟩,
    ⟨some 23, .p (.bin 172 .neq (.t 22) (.c (.int .i64 ((0 : Nat) : Int)))), none⟩] [0, 1, 5, 6, 7, 14, 15, 16, 23])
  (.cond (.t 23)
  (.ops [⟨some 24, .p (.mov (.t 6)), none⟩,
      ⟨some 25, .p (.mov (.t 7)), none⟩,
      ⟨some 26, .s (.bslice 1 1 (.val (.int .i64 ((0 : Nat) : Int))) [⟨0, .t 25⟩]), none⟩,
      ⟨some 27, .s (.app 1 8 3 (.t 24) (.t 26)), none⟩,
      ⟨some 6, .p (.mov (.t 27)), none⟩] [0, 1, 5, 6, 14, 15, 16])
  (.skip)))))
  (.ops [⟨some 28, .p (.bin 3 .add (.t 16) (.c (.int .i64 ((1 : Nat) : Int)))), none⟩,
    ⟨some 16, .p (.mov (.t 28)), none⟩] [0, 1, 5, 6, 14, 15, 16])) Q e H := by_refl rfl
theorem u_diff_hunks_k2_e {P : Program} {Q : VEx → Env → List Ob → Prop} {e : Env} {H : List Ob} : vwp P c_diff_hunks_k2 Q e H = vwp P (.seq (.cond (.t 17)
  (.skip)
  (.exit 0))
  c_diff_hunks_k1) Q e H := by_refl rfl
theorem u_diff_hunks_L3_e {P : Program} {Q : VEx → Env → List Ob → Prop} {e : Env} {H : List Ob} : vwp P c_diff_hunks_L3 Q e H = vwp P (.seq (.ops [⟨some 17, .p (.bin 3 .lss (.t 16) (.t 15)), none⟩] [0, 1, 5, 6, 14, 15, 16, 17])
  c_diff_hunks_k2) Q e H := by_refl rfl
theorem u_diff_hunks_k4_e {P : Program} {Q : VEx → Env → List Ob → Prop} {e : Env} {H : List Ob} : vwp P c_diff_hunks_k4 Q e H = vwp P (.block 0 (.own 6 1 (.loop [0, 1, 5, 6, 14, 15, 16] c_diff_hunks_L3))) Q e H := by_refl rfl
theorem u_diff_hunks_L5_e {P : Program} {Q : VEx → Env → List Ob → Prop} {e : Env} {H : List Ob} : vwp P c_diff_hunks_L5 Q e H = vwp P (.seq (.seq (.draw 18 [⟨some 32, .p (.mov (.t 9)), none⟩,
    ⟨some 33, .p (.mov (.t 6)), none⟩,
    ⟨some 34, .p (.lenV (.t 33)), none⟩,
    ⟨some 35, .p (.bin 3 .lss (.t 32) (.t 34)), none⟩,
    ⟨some 36, .p (.mov (.t 35)), none⟩,
    ⟨some 37, .p (.mov (.t 6)), some ⟨36, true⟩⟩,
    ⟨some 38, .p (.mov (.t 9)), some ⟨36, true⟩⟩,
    ⟨some 39, .p (.idxA 1 (.t 37) (.t 38)), some ⟨36, true⟩⟩,
    ⟨some 40, .p (.load false 1 (.t 39)), some ⟨36, true⟩⟩,
    ⟨some 41, .p (.mov (.t 6)), some ⟨36, true⟩⟩,
    ⟨some 42, .p (.mov (.t 9)), some ⟨36, true⟩⟩,
    ⟨some 43, .p (.bin 3 .sub (.t 42) (.c (.int .i64 ((1 : Nat) : Int)))), some ⟨36, true⟩⟩,
    ⟨some 44, .p (.idxA 1 (.t 41) (.t 43)), some ⟨36, true⟩⟩,
    ⟨some 45, .p (.load false 1 (.t 44)), some ⟨36, true⟩⟩,
    ⟨some 46, .p (.bin 3 .sub (.t 40) (.t 45)), some ⟨36, true⟩⟩,
    ⟨some 47, .p (.bin 3 .sub (.t 46) (.c (.int .i64 ((1 : Nat) : Int)))), some ⟨36, true⟩⟩,
    ⟨some 48, .p (.mov (.t 1)), some ⟨36, true⟩⟩,
    ⟨some 49, .p (.bin 3 .mul (.c (.int .i64 ((2 : Nat) : Int))) (.t 48)), some ⟨36, true⟩⟩,
    ⟨some 50, .p (.bin 3 .leq (.t 47) (.t 49)), some ⟨36, true⟩⟩,
    ⟨some 51, .p (.pick (.t 36) (.t 50) (.c (.bool false))), none⟩] [0, 1, 5, 6, 9, 51])
  (.cond (.t 51)
  (.skip)
  (.exit 4)))
  (.block 5 (.ops [⟨some 52, .p (.mov (.t 9)), none⟩,
    ⟨some 53, .p (.bin 3 .add (.t 52) (.c (.int .i64 ((1 : Nat) : Int)))), none⟩,
    ⟨some 9, .p (.mov (.t 53)), none⟩] [0, 1, 5, 6, 9]))) Q e H := by_refl rfl
theorem u_diff_hunks_k6_e {P : Program} {Q : VEx → Env → List Ob → Prop} {e : Env} {H : List Ob} : vwp P c_diff_hunks_k6 Q e H = vwp P (.seq (.ops [⟨some 79, .p (.mov (.t 5)), none⟩,
    ⟨some 80, .p (.mov (.t 12)), none⟩,
    ⟨some 81, .p (.mov (.t 13)), none⟩,
    ⟨some 82, .p (.mov (.t 0)), none⟩,
    ⟨some 83, .p (.mov (.t 10)), none⟩,
    ⟨some 84, .p (.mov (.t 11)), none⟩,
    ⟨some 85, .p (.slV 2 (.t 82) (some (.t 83)) (some (.t 84))), none⟩,
    ⟨some 86, .p (.build [.val (.int .i64 ((0 : Nat) : Int)), .val (.int .i64 ((0 : Nat) : Int)), .val (.slice none 0 0)] [1, 1, 1] [⟨0, .t 80⟩, ⟨1, .t 81⟩, ⟨2, .t 85⟩]), none⟩,
    ⟨some 87, .s (.bslice 3 1 (.agg [.val (.int .i64 ((0 : Nat) : Int)), .val (.int .i64 ((0 : Nat) : Int)), .val (.slice none 0 0)]) [⟨0, .t 86⟩]), none⟩,
    ⟨some 88, .s (.app 3 40 97 (.t 79) (.t 87)), none⟩,
    ⟨some 5, .p (.mov (.t 88)), none⟩] [0, 1, 5, 6, 9])
  (.ops [⟨some 89, .p (.mov (.t 6)), none⟩,
    ⟨some 90, .p (.mov (.t 9)), none⟩,
    ⟨some 91, .p (.slV 1 (.t 89) (some (.t 90)) none), none⟩,
    ⟨some 6, .p (.mov (.t 91)), none⟩] [0, 1, 5, 6])) Q e H := by_refl rfl
theorem u_diff_hunks_k7_e {P : Program} {Q : VEx → Env → List Ob → Prop} {e : Env} {H : List Ob} : vwp P c_diff_hunks_k7 Q e H = vwp P (.seq (.ops [⟨some 72, .p (.mov (.t 0)), none⟩,
    ⟨some 73, .p (.mov (.t 10)), none⟩,
    ⟨some 74, .p (.slV 2 (.t 72) none (some (.t 73))), none⟩,
    ⟨some 75, .p (.build [.val (.int .i64 ((0 : Nat) : Int)), .val (.int .i64 ((0 : Nat) : Int)), .val (.slice none 0 0)] [1, 1, 1] [⟨2, .t 74⟩]), none⟩,
    ⟨some 76, .s (.call 111 [.t 75]), none⟩,
    ⟨some 71, .p (.mov (.t 76)), none⟩,
    ⟨some 77, .p (.ext 0 (.t 71)), none⟩,
    ⟨some 78, .p (.ext 1 (.t 71)), none⟩,
    ⟨some 12, .p (.mov (.t 77)), none⟩,
    ⟨some 13, .p (.mov (.t 78)), none⟩] [0, 1, 5, 6, 9, 10, 11, 12, 13])
  c_diff_hunks_k6) Q e H := by_refl rfl
theorem u_diff_hunks_k8_e {P : Program} {Q : VEx → Env → List Ob → Prop} {e : Env} {H : List Ob} : vwp P c_diff_hunks_k8 Q e H = vwp P (.seq (.draw 17 [⟨some 54, .p (.mov (.t 6)), none⟩,
    ⟨some 55, .p (.idxA 1 (.t 54) (.c (.int .i64 ((0 : Nat) : Int)))), none⟩,
    ⟨some 56, .p (.load false 1 (.t 55)), none⟩,
    ⟨some 57, .p (.mov (.t 1)), none⟩,
    ⟨some 58, .p (.bin 3 .sub (.t 56) (.t 57)), none⟩,
    ⟨some 59, .p (.max (.c (.int .i64 ((0 : Nat) : Int))) (.t 58)), none⟩,
    ⟨some 60, .p (.mov (.t 0)), none⟩,
    ⟨some 61, .p (.lenV (.t 60)), none⟩,
    ⟨some 62, .p (.mov (.t 6)), none⟩,
    ⟨some 63, .p (.mov (.t 9)), none⟩,
    ⟨some 64, .p (.bin 3 .sub (.t 63) (.c (.int .i64 ((1 : Nat) : Int)))), none⟩,
    ⟨some 65, .p (.idxA 1 (.t 62) (.t 64)), none⟩,
    ⟨some 66, .p (.load false 1 (.t 65)), none⟩,
    ⟨some 67, .p (.bin 3 .add (.t 66) (.c (.int .i64 ((1 : Nat) : Int)))), none⟩,
    ⟨some 68, .p (.mov (.t 1)), none⟩,
    ⟨some 69, .p (.bin 3 .add (.t 67) (.t 68)), none⟩,
    ⟨some 70, .p (.min (.t 61) (.t 69)), none⟩,
    ⟨some 10, .p (.mov (.t 59)), none⟩,
    ⟨some 11, .p (.mov (.t 70)), none⟩] [0, 1, 5, 6, 9, 10, 11])
  c_diff_hunks_k7) Q e H := by_refl rfl
theorem u_diff_hunks_k9_e {P : Program} {Q : VEx → Env → List Ob → Prop} {e : Env} {H : List Ob} : vwp P c_diff_hunks_k9 Q e H = vwp P (.seq (.block 4 (.loop [0, 1, 5, 6, 9] c_diff_hunks_L5))
  c_diff_hunks_k8) Q e H := by_refl rfl
theorem u_diff_hunks_k10_e {P : Program} {Q : VEx → Env → List Ob → Prop} {e : Env} {H : List Ob} : vwp P c_diff_hunks_k10 Q e H = vwp P (.block 3 (.seq (.ops [⟨some 9, .p (.mov (.c (.int .i64 ((1 : Nat) : Int)))), none⟩] [0, 1, 5, 6, 9])
  c_diff_hunks_k9)) Q e H := by_refl rfl
theorem u_diff_hunks_L11_e {P : Program} {Q : VEx → Env → List Ob → Prop} {e : Env} {H : List Ob} : vwp P c_diff_hunks_L11 Q e H = vwp P (.seq (.seq (.ops [⟨some 29, .p (.mov (.t 6)), none⟩,
    ⟨some 30, .p (.lenV (.t 29)), none⟩,
    ⟨some 31, .p (.bin 3 .gtr (.t 30) (.c (.int .i64 ((0 : Nat) : Int)))), none⟩] [0, 1, 5, 6, 31])
  (.cond (.t 31)
  (.skip)
  (.exit 2)))
  c_diff_hunks_k10) Q e H := by_refl rfl
theorem u_diff_hunks_k12_e {P : Program} {Q : VEx → Env → List Ob → Prop} {e : Env} {H : List Ob} : vwp P c_diff_hunks_k12 Q e H = vwp P (.seq (.ops [⟨some 92, .p (.mov (.t 5)), none⟩,
    ⟨some 4, .p (.mov (.t 92)), none⟩] [4])
  (.ret)) Q e H := by_refl rfl
theorem u_diff_hunks_k13_e {P : Program} {Q : VEx → Env → List Ob → Prop} {e : Env} {H : List Ob} : vwp P c_diff_hunks_k13 Q e H = vwp P (.seq (.block 2 (.own 5 3 (.loop [0, 1, 5, 6] c_diff_hunks_L11)))
  c_diff_hunks_k12) Q e H := by_refl rfl
theorem u_diff_hunks_k14_e {P : Program} {Q : VEx → Env → List Ob → Prop} {e : Env} {H : List Ob} : vwp P c_diff_hunks_k14 Q e H = vwp P (.seq (.seq (.ops [⟨some 14, .p (.mov (.t 0)), none⟩,
    ⟨some 15, .p (.lenV (.t 14)), none⟩,
    ⟨some 16, .p (.mov (.c (.int .i64 ((0 : Nat) : Int)))), none⟩] [0, 1, 5, 6, 14, 15, 16])
  c_diff_hunks_k4)
  c_diff_hunks_k13) Q e H := by_refl rfl
theorem u_diff_hunks_k15_e {P : Program} {Q : VEx → Env → List Ob → Prop} {e : Env} {H : List Ob} : vwp P c_diff_hunks_k15 Q e H = vwp P (.seq (.ops [⟨some 6, .p (.mov (.c (.slice none 0 0))), none⟩] [0, 1, 5, 6])
  c_diff_hunks_k14) Q e H := by_refl rfl
theorem u_diff_hunks_k16_e {P : Program} {Q : VEx → Env → List Ob → Prop} {e : Env} {H : List Ob} : vwp P c_diff_hunks_k16 Q e H = vwp P (.seq (.ops [⟨some 5, .p (.mov (.c (.slice none 0 0))), none⟩] [0, 1, 5])
  c_diff_hunks_k15) Q e H := by_refl rfl
theorem u_diff_hunks_e {P : Program} {Q : VEx → Env → List Ob → Prop} {e : Env} {H : List Ob} : vwp P c_diff_hunks Q e H = vwp P (.seq (.ops [⟨some 4, .p (.mov (.c (.slice none 0 0))), none⟩] [0, 1])
  c_diff_hunks_k16) Q e H := by_refl rfl
theorem u_diff_hunks_r {K : TV → Prop} {e : Env} {H : List Ob} : res r_diff_hunks e H K = res [.tmp 4] e H K := by_refl rfl
def u_diff_hunks := (And.intro (And.intro (And.intro (And.intro (And.intro @u_diff_hunks_k1_e @u_diff_hunks_k2_e) (And.intro @u_diff_hunks_L3_e @u_diff_hunks_k4_e)) (And.intro (And.intro @u_diff_hunks_L5_e @u_diff_hunks_k6_e) (And.intro @u_diff_hunks_k7_e @u_diff_hunks_k8_e))) (And.intro (And.intro (And.intro @u_diff_hunks_k9_e @u_diff_hunks_k10_e) (And.intro @u_diff_hunks_L11_e @u_diff_hunks_k12_e)) (And.intro (And.intro @u_diff_hunks_k13_e @u_diff_hunks_k14_e) (And.intro @u_diff_hunks_k15_e @u_diff_hunks_k16_e)))) (And.intro @u_diff_hunks_e @u_diff_hunks_r))
theorem go_diff_hunks {args : List TV} {H : List Ob} {R : TV → List Ob → Prop} (hn : args.length ≤ 93) (h : vwp Tryd.prog c_diff_hunks (atEnd r_diff_hunks R) (argsE 0 args) H) : VCalls Tryd.prog 56 args H R := vcalls_of Tryd.func56 t_diff_hunks w_diff_hunks hn h

/-! (gitlike/diff.hunk).counts -/
def c_diff_hunk_counts_k1 : VCode := .seq (.block 1 (.seq (.ops [⟨some 11, .p (.idxA 2 (.t 7) (.t 9)), none⟩,
    ⟨some 12, .p (.load true 2 (.t 11)), none⟩,
    ⟨some 5, .s (.alloc (.agg [.val (.int .i64 ((0 : Nat) : Int)), .val (.string (str []))])), none⟩,
    ⟨none, .s (.store 2 (.t 5) (.t 12)), none⟩] [2, 3, 5, 7, 8, 9])
  (.seq (.seq (.ops [⟨some 13, .p (.fieldA 0 0 (.t 5)), none⟩,
    ⟨some 14, .p (.load false 1 (.t 13)), none⟩,
    ⟨some 15, .p (.bin 172 .neq (.t 14) (.c (.int .i64 ((2 : Nat) : Int)))), none⟩] [2, 3, 5, 7, 8, 9, 15])
  (.cond (.t 15)
  (.ops [⟨some 16, .p (.mov (.t 2)), none⟩,
      ⟨some 17, .p (.bin 3 .add (.t 16) (.c (.int .i64 ((1 : Nat) : Int)))), none⟩,
      ⟨some 2, .p (.mov (.t 17)), none⟩] [2, 3, 5, 7, 8, 9])
  (.skip)))
  (.seq (.ops [⟨some 18, .p (.fieldA 0 0 (.t 5)), none⟩,
    ⟨some 19, .p (.load false 1 (.t 18)), none⟩,
    ⟨some 20, .p (.bin 172 .neq (.t 19) (.c (.int .i64 ((1 : Nat) : Int)))), none⟩] [2, 3, 7, 8, 9, 20])
  (.cond (.t 20)
  (.ops [⟨some 21, .p (.mov (.t 3)), none⟩,
      ⟨some 22, .p (.bin 3 .add (.t 21) (.c (.int .i64 ((1 : Nat) : Int)))), none⟩,
      ⟨some 3, .p (.mov (.t 22)), none⟩] [2, 3, 7, 8, 9])
  (.skip))))))
  (.ops [⟨some 23, .p (.bin 3 .add (.t 9) (.c (.int .i64 ((1 : Nat) : Int)))), none⟩,
    ⟨some 9, .p (.mov (.t 23)), none⟩] [2, 3, 7, 8, 9])
def c_diff_hunk_counts_k2 : VCode := .seq (.cond (.t 10)
  (.skip)
  (.exit 0))
  c_diff_hunk_counts_k1
def c_diff_hunk_counts_L3 : VCode := .seq (.ops [⟨some 10, .p (.bin 3 .lss (.t 9) (.t 8)), none⟩] [2, 3, 7, 8, 9, 10])
  c_diff_hunk_counts_k2
def c_diff_hunk_counts_k4 : VCode := .block 0 (.loop [2, 3, 7, 8, 9] c_diff_hunk_counts_L3)
def c_diff_hunk_counts_k5 : VCode := .seq (.ops [⟨some 24, .p (.mov (.t 2)), none⟩,
    ⟨some 25, .p (.mov (.t 3)), none⟩,
    ⟨some 2, .p (.mov (.t 24)), none⟩,
    ⟨some 3, .p (.mov (.t 25)), none⟩] [2, 3])
  (.ret)
def c_diff_hunk_counts_k6 : VCode := .seq (.seq (.ops [⟨some 6, .p (.fieldA 2 2 (.t 1)), none⟩,
    ⟨some 7, .p (.load false 1 (.t 6)), none⟩,
    ⟨some 8, .p (.lenV (.t 7)), none⟩,
    ⟨some 9, .p (.mov (.c (.int .i64 ((0 : Nat) : Int)))), none⟩] [2, 3, 7, 8, 9])
  c_diff_hunk_counts_k4)
  c_diff_hunk_counts_k5
def c_diff_hunk_counts : VCode := .seq (.ops [⟨some 1, .s (.box (.t 0)), none⟩,
    ⟨some 2, .p (.mov (.c (.int .i64 ((0 : Nat) : Int)))), none⟩,
    ⟨some 3, .p (.mov (.c (.int .i64 ((0 : Nat) : Int)))), none⟩] [1, 2, 3])
  c_diff_hunk_counts_k6
def r_diff_hunk_counts : List VR := [.tmp 2, .tmp 3]
theorem t_diff_hunk_counts : Tryd.f111.body.bind (trC Tryd.prog Tryd.f111.ntmps) = some (er c_diff_hunk_counts) := by kernel_rfl
theorem w_diff_hunk_counts : trR Tryd.prog Tryd.f111.results.toList = some r_diff_hunk_counts := by kernel_rfl
theorem u_diff_hunk_counts_k1_e {P : Program} {Q : VEx → Env → List Ob → Prop} {e : Env} {H : List Ob} : vwp P c_diff_hunk_counts_k1 Q e H = vwp P (.seq (.block 1 (.seq (.ops [⟨some 11, .p (.idxA 2 (.t 7) (.t 9)), none⟩,
    ⟨some 12, .p (.load true 2 (.t 11)), none⟩,
    ⟨some 5, .s (.alloc (.agg [.val (.int .i64 ((0 : Nat) : Int)), .val (.string (str []))])), none⟩,
    ⟨none, .s (.store 2 (.t 5) (.t 12)), none⟩] [2, 3, 5, 7, 8, 9])
  (.seq (.seq (.ops [⟨some 13, .p (.fieldA 0 0 (.t 5)), none⟩,
    ⟨some 14, .p (.load false 1 (.t 13)), none⟩,
    ⟨some 15, .p (.bin 172 .neq (.t 14) (.c (.int .i64 ((2 : Nat) : Int)))), none⟩] [2, 3, 5, 7, 8, 9, 15])
  (.cond (.t 15)
  (.ops [⟨some 16, .p (.mov (.t 2)), none⟩,
      ⟨some 17, .p (.bin 3 .add (.t 16) (.c (.int .i64 ((1 : Nat) : Int)))), none⟩,
      ⟨some 2, .p (.mov (.t 17)), none⟩] [2, 3, 5, 7, 8, 9])
  (.skip)))
  (.seq (.ops [⟨some 18, .p (.fieldA 0 0 (.t 5)), none⟩,
    ⟨some 19, .p (.load false 1 (.t 18)), none⟩,
    ⟨some 20, .p (.bin 172 .neq (.t 19) (.c (.int .i64 ((1 : Nat) : Int)))), none⟩] [2, 3, 7, 8, 9, 20])
  (.cond (.t 20)
  (.ops [⟨some 21, .p (.mov (.t 3)), none⟩,
      ⟨some 22, .p (.bin 3 .add (.t 21) (.c (.int .i64 ((1 : Nat) : Int)))), none⟩,
      ⟨some 3, .p (.mov (.t 22)), none⟩] [2, 3, 7, 8, 9])
  (.skip))))))
  (.ops [⟨some 23, .p (.bin 3 .add (.t 9) (.c (.int .i64 ((1 : Nat) : Int)))), none⟩,
    ⟨some 9, .p (.mov (.t 23)), none⟩] [2, 3, 7, 8, 9])) Q e H := by_refl rfl
theorem u_diff_hunk_counts_k2_e {P : Program} {Q : VEx → Env → List Ob → Prop} {e : Env} {H : List Ob} : vwp P c_diff_hunk_counts_k2 Q e H = vwp P (.seq (.cond (.t 10)
  (.skip)
  (.exit 0))
  c_diff_hunk_counts_k1) Q e H := by_refl rfl
theorem u_diff_hunk_counts_L3_e {P : Program} {Q : VEx → Env → List Ob → Prop} {e : Env} {H : List Ob} : vwp P c_diff_hunk_counts_L3 Q e H = vwp P (.seq (.ops [⟨some 10, .p (.bin 3 .lss (.t 9) (.t 8)), none⟩] [2, 3, 7, 8, 9, 10])
  c_diff_hunk_counts_k2) Q e H := by_refl rfl
theorem u_diff_hunk_counts_k4_e {P : Program} {Q : VEx → Env → List Ob → Prop} {e : Env} {H : List Ob} : vwp P c_diff_hunk_counts_k4 Q e H = vwp P (.block 0 (.loop [2, 3, 7, 8, 9] c_diff_hunk_counts_L3)) Q e H := by_refl rfl
theorem u_diff_hunk_counts_k5_e {P : Program} {Q : VEx → Env → List Ob → Prop} {e : Env} {H : List Ob} : vwp P c_diff_hunk_counts_k5 Q e H = vwp P (.seq (.ops [⟨some 24, .p (.mov (.t 2)), none⟩,
    ⟨some 25, .p (.mov (.t 3)), none⟩,
    ⟨some 2, .p (.mov (.t 24)), none⟩,
    ⟨some 3, .p (.mov (.t 25)), none⟩] [2, 3])
  (.ret)) Q e H := by_refl rfl
theorem u_diff_hunk_counts_k6_e {P : Program} {Q : VEx → Env → List Ob → Prop} {e : Env} {H : List Ob} : vwp P c_diff_hunk_counts_k6 Q e H = vwp P (.seq (.seq (.ops [⟨some 6, .p (.fieldA 2 2 (.t 1)), none⟩,
    ⟨some 7, .p (.load false 1 (.t 6)), none⟩,
    ⟨some 8, .p (.lenV (.t 7)), none⟩,
    ⟨some 9, .p (.mov (.c (.int .i64 ((0 : Nat) : Int)))), none⟩] [2, 3, 7, 8, 9])
  c_diff_hunk_counts_k4)
  c_diff_hunk_counts_k5) Q e H := by_refl rfl
theorem u_diff_hunk_counts_e {P : Program} {Q : VEx → Env → List Ob → Prop} {e : Env} {H : List Ob} : vwp P c_diff_hunk_counts Q e H = vwp P (.seq (.ops [⟨some 1, .s (.box (.t 0)), none⟩,
    ⟨some 2, .p (.mov (.c (.int .i64 ((0 : Nat) : Int)))), none⟩,
    ⟨some 3, .p (.mov (.c (.int .i64 ((0 : Nat) : Int)))), none⟩] [1, 2, 3])
  c_diff_hunk_counts_k6) Q e H := by_refl rfl
theorem u_diff_hunk_counts_r {K : TV → Prop} {e : Env} {H : List Ob} : res r_diff_hunk_counts e H K = res [.tmp 2, .tmp 3] e H K := by_refl rfl
def u_diff_hunk_counts := (And.intro (And.intro (And.intro @u_diff_hunk_counts_k1_e @u_diff_hunk_counts_k2_e) (And.intro @u_diff_hunk_counts_L3_e @u_diff_hunk_counts_k4_e)) (And.intro (And.intro @u_diff_hunk_counts_k5_e @u_diff_hunk_counts_k6_e) (And.intro @u_diff_hunk_counts_e @u_diff_hunk_counts_r)))
theorem go_diff_hunk_counts {args : List TV} {H : List Ob} {R : TV → List Ob → Prop} (hn : args.length ≤ 26) (h : vwp Tryd.prog c_diff_hunk_counts (atEnd r_diff_hunk_counts R) (argsE 0 args) H) : VCalls Tryd.prog 111 args H R := vcalls_of Tryd.func111 t_diff_hunk_counts w_diff_hunk_counts hn h

/-! (gitlike/diff.hunk).write -/
def c_diff_hunk_write_k1 : VCode := .seq (.draw 5 [⟨some 34, .p (.mov (.t 1)), none⟩,
    ⟨some 35, .p (.fieldA 0 0 (.t 7)), none⟩,
    ⟨some 36, .p (.load false 1 (.t 35)), none⟩,
    ⟨some 37, .p (.idxAA 3 1 (.g 0) (.t 36)), none⟩,
    ⟨some 38, .p (.load false 1 (.t 37)), none⟩,
    ⟨some 39, .p (.fieldA 1 1 (.t 7)), none⟩,
    ⟨some 40, .p (.load false 1 (.t 39)), none⟩,
    ⟨some 41, .p (.bin 9 .add (.t 38) (.t 40)), none⟩,
    ⟨some 42, .s (.call 116 [.t 34, .t 41]), none⟩] [1, 7, 28, 29, 30])
  (.seq (.ops [⟨some 43, .p (.fieldA 1 1 (.t 7)), none⟩,
    ⟨some 44, .p (.load false 1 (.t 43)), none⟩,
    ⟨some 45, .s (.call 48 [.t 44, .c (.string (str [10]))]), none⟩,
    ⟨some 46, .p (.un .not (.t 45)), none⟩] [1, 28, 29, 30, 46])
  (.cond (.t 46)
  (.ops [⟨some 47, .p (.mov (.t 1)), none⟩,
      ⟨some 48, .s (.call 116 [.t 47, .c (.string (str [10, 92, 32, 78, 111, 32, 110, 101, 119, 108, 105, 110, 101, 32, 97, 116, 32, 101, 110, 100, 32, 111, 102, 32, 102, 105, 108, 101, 10]))]), none⟩] [1, 28, 29, 30])
  (.skip)))
def c_diff_hunk_write_k2 : VCode := .seq (.block 1 (.seq (.ops [⟨some 32, .p (.idxA 2 (.t 28) (.t 30)), none⟩,
    ⟨some 33, .p (.load true 2 (.t 32)), none⟩,
    ⟨some 7, .s (.alloc (.agg [.val (.int .i64 ((0 : Nat) : Int)), .val (.string (str []))])), none⟩,
    ⟨none, .s (.store 2 (.t 7) (.t 33)), none⟩] [1, 7, 28, 29, 30])
  c_diff_hunk_write_k1))
  (.ops [⟨some 49, .p (.bin 3 .add (.t 30) (.c (.int .i64 ((1 : Nat) : Int)))), none⟩,
    ⟨some 30, .p (.mov (.t 49)), none⟩] [1, 28, 29, 30])
def c_diff_hunk_write_k3 : VCode := .seq (.cond (.t 31)
  (.skip)
  (.exit 0))
  c_diff_hunk_write_k2
def c_diff_hunk_write_L4 : VCode := .seq (.ops [⟨some 31, .p (.bin 3 .lss (.t 30) (.t 29)), none⟩] [1, 28, 29, 30, 31])
  c_diff_hunk_write_k3
def c_diff_hunk_write_k5 : VCode := .block 0 (.loop [1, 28, 29, 30] c_diff_hunk_write_L4)
def c_diff_hunk_write_k6 : VCode := .seq (.ops [⟨some 27, .p (.fieldA 2 2 (.t 2)), none⟩,
    ⟨some 28, .p (.load false 1 (.t 27)), none⟩,
    ⟨some 29, .p (.lenV (.t 28)), none⟩,
    ⟨some 30, .p (.mov (.c (.int .i64 ((0 : Nat) : Int)))), none⟩] [1, 28, 29, 30])
  c_diff_hunk_write_k5
def c_diff_hunk_write_k7 : VCode := .seq (.draw 10 [⟨some 13, .p (.mov (.t 1)), none⟩,
    ⟨some 14, .p (.fieldA 0 0 (.t 2)), none⟩,
    ⟨some 15, .p (.load false 1 (.t 14)), none⟩,
    ⟨some 16, .p (.mov (.t 4)), none⟩,
    ⟨some 17, .s (.call 117 [.t 15, .t 16]), none⟩,
    ⟨some 18, .p (.bin 9 .add (.c (.string (str [64, 64, 32, 45]))) (.t 17)), none⟩,
    ⟨some 19, .p (.bin 9 .add (.t 18) (.c (.string (str [32, 43])))), none⟩,
    ⟨some 20, .p (.fieldA 1 1 (.t 2)), none⟩,
    ⟨some 21, .p (.load false 1 (.t 20)), none⟩,
    ⟨some 22, .p (.mov (.t 5)), none⟩,
    ⟨some 23, .s (.call 117 [.t 21, .t 22]), none⟩,
    ⟨some 24, .p (.bin 9 .add (.t 19) (.t 23)), none⟩,
    ⟨some 25, .p (.bin 9 .add (.t 24) (.c (.string (str [32, 64, 64, 10])))), none⟩,
    ⟨some 26, .s (.call 116 [.t 13, .t 25]), none⟩] [1, 2])
  c_diff_hunk_write_k6
def c_diff_hunk_write_k8 : VCode := .seq (.ops [⟨some 9, .p (.load true 3 (.t 2)), none⟩,
    ⟨some 10, .s (.call 111 [.t 9]), none⟩,
    ⟨some 8, .p (.mov (.t 10)), none⟩,
    ⟨some 11, .p (.ext 0 (.t 8)), none⟩,
    ⟨some 12, .p (.ext 1 (.t 8)), none⟩,
    ⟨some 4, .p (.mov (.t 11)), none⟩,
    ⟨some 5, .p (.mov (.t 12)), none⟩] [1, 2, 4, 5])
  c_diff_hunk_write_k7
def c_diff_hunk_write : VCode := .seq (.ops [⟨some 2, .s (.box (.t 0)), none⟩] [1, 2])
  c_diff_hunk_write_k8
def r_diff_hunk_write : List VR := []
theorem t_diff_hunk_write : Tryd.f58.body.bind (trC Tryd.prog Tryd.f58.ntmps) = some (er c_diff_hunk_write) := by kernel_rfl
theorem w_diff_hunk_write : trR Tryd.prog Tryd.f58.results.toList = some r_diff_hunk_write := by kernel_rfl
theorem u_diff_hunk_write_k1_e {P : Program} {Q : VEx → Env → List Ob → Prop} {e : Env} {H : List Ob} : vwp P c_diff_hunk_write_k1 Q e H = vwp P (.seq (.draw 5 [⟨some 34, .p (.mov (.t 1)), none⟩,
    ⟨some 35, .p (.fieldA 0 0 (.t 7)), none⟩,
    ⟨some 36, .p (.load false 1 (.t 35)), none⟩,
    ⟨some 37, .p (.idxAA 3 1 (.g 0) (.t 36)), none⟩,
    ⟨some 38, .p (.load false 1 (.t 37)), none⟩,
    ⟨some 39, .p (.fieldA 1 1 (.t 7)), none⟩,
    ⟨some 40, .p (.load false 1 (.t 39)), none⟩,
    ⟨some 41, .p (.bin 9 .add (.t 38) (.t 40)), none⟩,
    ⟨some 42, .s (.call 116 [.t 34, .t 41]), none⟩] [1, 7, 28, 29, 30])
  (.seq (.ops [⟨some 43, .p (.fieldA 1 1 (.t 7)), none⟩,
    ⟨some 44, .p (.load false 1 (.t 43)), none⟩,
    ⟨some 45, .s (.call 48 [.t 44, .c (.string (str [10]))]), none⟩,
    ⟨some 46, .p (.un .not (.t 45)), none⟩] [1, 28, 29, 30, 46])
  (.cond (.t 46)
  (.ops [⟨some 47, .p (.mov (.t 1)), none⟩,
      ⟨some 48, .s (.call 116 [.t 47, .c (.string (str [10, 92, 32, 78, 111, 32, 110, 101, 119, 108, 105, 110, 101, 32, 97, 116, 32, 101, 110, 100, 32, 111, 102, 32, 102, 105, 108, 101, 10]))]), none⟩] [1, 28, 29, 30])
  (.skip)))) Q e H := by_refl rfl
theorem u_diff_hunk_write_k2_e {P : Program} {Q : VEx → Env → List Ob → Prop} {e : Env} {H : List Ob} : vwp P c_diff_hunk_write_k2 Q e H = vwp P (.seq (.block 1 (.seq (.ops [⟨some 32, .p (.idxA 2 (.t 28) (.t 30)), none⟩,
    ⟨some 33, .p (.load true 2 (.t 32)), none⟩,
    ⟨some 7, .s (.alloc (.agg [.val (.int .i64 ((0 : Nat) : Int)), .val (.string (str []))])), none⟩,
    ⟨none, .s (.store 2 (.t 7) (.t 33)), none⟩] [1, 7, 28, 29, 30])
  c_diff_hunk_write_k1))
  (.ops [⟨some 49, .p (.bin 3 .add (.t 30) (.c (.int .i64 ((1 : Nat) : Int)))), none⟩,
    ⟨some 30, .p (.mov (.t 49)), none⟩] [1, 28, 29, 30])) Q e H := by_refl rfl
theorem u_diff_hunk_write_k3_e {P : Program} {Q : VEx → Env → List Ob → Prop} {e : Env} {H : List Ob} : vwp P c_diff_hunk_write_k3 Q e H = vwp P (.seq (.cond (.t 31)
  (.skip)
  (.exit 0))
  c_diff_hunk_write_k2) Q e H := by_refl rfl
theorem u_diff_hunk_write_L4_e {P : Program} {Q : VEx → Env → List Ob → Prop} {e : Env} {H : List Ob} : vwp P c_diff_hunk_write_L4 Q e H = vwp P (.seq (.ops [⟨some 31, .p (.bin 3 .lss (.t 30) (.t 29)), none⟩] [1, 28, 29, 30, 31])
  c_diff_hunk_write_k3) Q e H := by_refl rfl
theorem u_diff_hunk_write_k5_e {P : Program} {Q : VEx → Env → List Ob → Prop} {e : Env} {H : List Ob} : vwp P c_diff_hunk_write_k5 Q e H = vwp P (.block 0 (.loop [1, 28, 29, 30] c_diff_hunk_write_L4)) Q e H := by_refl rfl
theorem u_diff_hunk_write_k6_e {P : Program} {Q : VEx → Env → List Ob → Prop} {e : Env} {H : List Ob} : vwp P c_diff_hunk_write_k6 Q e H = vwp P (.seq (.ops [⟨some 27, .p (.fieldA 2 2 (.t 2)), none⟩,
    ⟨some 28, .p (.load false 1 (.t 27)), none⟩,
    ⟨some 29, .p (.lenV (.t 28)), none⟩,
    ⟨some 30, .p (.mov (.c (.int .i64 ((0 : Nat) : Int)))), none⟩] [1, 28, 29, 30])
  c_diff_hunk_write_k5) Q e H := by_refl rfl
theorem u_diff_hunk_write_k7_e {P : Program} {Q : VEx → Env → List Ob → Prop} {e : Env} {H : List Ob} : vwp P c_diff_hunk_write_k7 Q e H = vwp P (.seq (.draw 10 [⟨some 13, .p (.mov (.t 1)), none⟩,
    ⟨some 14, .p (.fieldA 0 0 (.t 2)), none⟩,
    ⟨some 15, .p (.load false 1 (.t 14)), none⟩,
    ⟨some 16, .p (.mov (.t 4)), none⟩,
    ⟨some 17, .s (.call 117 [.t 15, .t 16]), none⟩,
    ⟨some 18, .p (.bin 9 .add (.c (.string (str [64, 64, 32, 45]))) (.t 17)), none⟩,
    ⟨some 19, .p (.bin 9 .add (.t 18) (.c (.string (str [32, 43])))), none⟩,
    ⟨some 20, .p (.fieldA 1 1 (.t 2)), none⟩,
    ⟨some 21, .p (.load false 1 (.t 20)), none⟩,
    ⟨some 22, .p (.mov (.t 5)), none⟩,
    ⟨some 23, .s (.call 117 [.t 21, .t 22]), none⟩,
    ⟨some 24, .p (.bin 9 .add (.t 19) (.t 23)), none⟩,
    ⟨some 25, .p (.bin 9 .add (.t 24) (.c (.string (str [32, 64, 64, 10])))), none⟩,
    ⟨some 26, .s (.call 116 [.t 13, .t 25]), none⟩] [1, 2])
  c_diff_hunk_write_k6) Q e H := by_refl rfl
theorem u_diff_hunk_write_k8_e {P : Program} {Q : VEx → Env → List Ob → Prop} {e : Env} {H : List Ob} : vwp P c_diff_hunk_write_k8 Q e H = vwp P (.seq (.ops [⟨some 9, .p (.load true 3 (.t 2)), none⟩,
    ⟨some 10, .s (.call 111 [.t 9]), none⟩,
    ⟨some 8, .p (.mov (.t 10)), none⟩,
    ⟨some 11, .p (.ext 0 (.t 8)), none⟩,
    ⟨some 12, .p (.ext 1 (.t 8)), none⟩,
    ⟨some 4, .p (.mov (.t 11)), none⟩,
    ⟨some 5, .p (.mov (.t 12)), none⟩] [1, 2, 4, 5])
  c_diff_hunk_write_k7) Q e H := by_refl rfl
theorem u_diff_hunk_write_e {P : Program} {Q : VEx → Env → List Ob → Prop} {e : Env} {H : List Ob} : vwp P c_diff_hunk_write Q e H = vwp P (.seq (.ops [⟨some 2, .s (.box (.t 0)), none⟩] [1, 2])
  c_diff_hunk_write_k8) Q e H := by_refl rfl
theorem u_diff_hunk_write_r {K : TV → Prop} {e : Env} {H : List Ob} : res r_diff_hunk_write e H K = res [] e H K := by_refl rfl
def u_diff_hunk_write := (And.intro (And.intro (And.intro (And.intro @u_diff_hunk_write_k1_e @u_diff_hunk_write_k2_e) (And.intro @u_diff_hunk_write_k3_e @u_diff_hunk_write_L4_e)) (And.intro (And.intro @u_diff_hunk_write_k5_e @u_diff_hunk_write_k6_e) (And.intro @u_diff_hunk_write_k7_e @u_diff_hunk_write_k8_e))) (And.intro @u_diff_hunk_write_e @u_diff_hunk_write_r))
theorem go_diff_hunk_write {args : List TV} {H : List Ob} {R : TV → List Ob → Prop} (hn : args.length ≤ 50) (h : vwp Tryd.prog c_diff_hunk_write (atEnd r_diff_hunk_write R) (argsE 0 args) H) : VCalls Tryd.prog 58 args H R := vcalls_of Tryd.func58 t_diff_hunk_write w_diff_hunk_write hn h

/-! gitlike/diff.place -/
def c_diff_place : VCode := .seq (.ops [⟨some 4, .p (.mov (.c (.string (str [])))), none⟩] [0, 1])
  (.seq (.seq (.ops [⟨some 5, .p (.mov (.t 1)), none⟩,
    ⟨some 6, .p (.bin 3 .gtr (.t 5) (.c (.int .i64 ((0 : Nat) : Int)))), none⟩] [0, 1, 6])
  (.cond (.t 6)
  (.ops [⟨some 7, .p (.mov (.t 0)), none⟩,
      ⟨some 8, .p (.bin 3 .add (.t 7) (.c (.int .i64 ((1 : Nat) : Int)))), none⟩,
      ⟨some 0, .p (.mov (.t 8)), none⟩] [0, 1])
  (.skip)))
  (.seq (.ops [⟨some 9, .p (.mov (.t 0)), none⟩,
    ⟨some 10, .s (.call 177 [.t 9]), none⟩,
    ⟨some 11, .p (.bin 9 .add (.t 10) (.c (.string (str [44])))), none⟩,
    ⟨some 12, .p (.mov (.t 1)), none⟩,
    ⟨some 13, .s (.call 177 [.t 12]), none⟩,
    ⟨some 14, .p (.bin 9 .add (.t 11) (.t 13)), none⟩,
    ⟨some 4, .p (.mov (.t 14)), none⟩] [4])
  (.ret)))
def r_diff_place : List VR := [.tmp 4]
theorem t_diff_place : Tryd.f117.body.bind (trC Tryd.prog Tryd.f117.ntmps) = some (er c_diff_place) := by kernel_rfl
theorem w_diff_place : trR Tryd.prog Tryd.f117.results.toList = some r_diff_place := by kernel_rfl
theorem u_diff_place_e {P : Program} {Q : VEx → Env → List Ob → Prop} {e : Env} {H : List Ob} : vwp P c_diff_place Q e H = vwp P (.seq (.ops [⟨some 4, .p (.mov (.c (.string (str [])))), none⟩] [0, 1])
  (.seq (.seq (.ops [⟨some 5, .p (.mov (.t 1)), none⟩,
    ⟨some 6, .p (.bin 3 .gtr (.t 5) (.c (.int .i64 ((0 : Nat) : Int)))), none⟩] [0, 1, 6])
  (.cond (.t 6)
  (.ops [⟨some 7, .p (.mov (.t 0)), none⟩,
      ⟨some 8, .p (.bin 3 .add (.t 7) (.c (.int .i64 ((1 : Nat) : Int)))), none⟩,
      ⟨some 0, .p (.mov (.t 8)), none⟩] [0, 1])
  (.skip)))
  (.seq (.ops [⟨some 9, .p (.mov (.t 0)), none⟩,
    ⟨some 10, .s (.call 177 [.t 9]), none⟩,
    ⟨some 11, .p (.bin 9 .add (.t 10) (.c (.string (str [44])))), none⟩,
    ⟨some 12, .p (.mov (.t 1)), none⟩,
    ⟨some 13, .s (.call 177 [.t 12]), none⟩,
    ⟨some 14, .p (.bin 9 .add (.t 11) (.t 13)), none⟩,
    ⟨some 4, .p (.mov (.t 14)), none⟩] [4])
  (.ret)))) Q e H := by_refl rfl
theorem u_diff_place_r {K : TV → Prop} {e : Env} {H : List Ob} : res r_diff_place e H K = res [.tmp 4] e H K := by_refl rfl
def u_diff_place := (And.intro @u_diff_place_e @u_diff_place_r)
theorem go_diff_place {args : List TV} {H : List Ob} {R : TV → List Ob → Prop} (hn : args.length ≤ 15) (h : vwp Tryd.prog c_diff_place (atEnd r_diff_place R) (argsE 0 args) H) : VCalls Tryd.prog 117 args H R := vcalls_of Tryd.func117 t_diff_place w_diff_place hn h

/-! gitlike/gitlikeref10.Patch -/
def c_ref10_Patch_b1 : VCode := .seq (.ops [⟨some 39, .p (.mov (.t 11)), none⟩,
    ⟨some 40, .p (.bin 3 .add (.t 39) (.c (.int .i64 ((1 : Nat) : Int)))), none⟩,
    ⟨some 11, .p (.mov (.t 40)), none⟩] [2, 7, 8, 9, 10, 11])
  (.seq (.ops [⟨some 41, .p (.mov (.t 9)), none⟩,
    ⟨some 42, .p (.bin 3 .add (.t 41) (.c (.int .i64 ((1 : Nat) : Int)))), none⟩,
    ⟨some 9, .p (.mov (.t 42)), none⟩] [2, 7, 8, 9, 10, 11])
  (.seq (.ops [⟨some 43, .p (.mov (.t 10)), none⟩,
    ⟨some 44, .p (.bin 3 .add (.t 43) (.c (.int .i64 ((1 : Nat) : Int)))), none⟩,
    ⟨some 10, .p (.mov (.t 44)), none⟩] [2, 7, 8, 9, 10, 11])
  (.exit 1)))
def c_ref10_Patch_L2 : VCode := .seq (.seq (.ops [⟨some 46, .p (.mov (.t 12)), none⟩,
    ⟨some 47, .p (.bin 3 .gtr (.t 46) (.c (.int .i64 ((0 : Nat) : Int)))), none⟩,
    ⟨some 48, .p (.mov (.t 47)), none⟩,
    ⟨some 49, .p (.mov (.t 11)), some ⟨48, true⟩⟩,
    ⟨some 50, .p (.mov (.t 12)), some ⟨48, true⟩⟩,
    ⟨some 51, .p (.bin 3 .sub (.t 49) (.t 50)), some ⟨48, true⟩⟩,
    ⟨some 52, .p (.mov (.t 2)), some ⟨48, true⟩⟩,
    ⟨some 53, .p (.bin 3 .lss (.t 51) (.t 52)), some ⟨48, true⟩⟩,
    ⟨some 54, .p (.pick (.t 48) (.t 53) (.c (.bool false))), none⟩,
    ⟨some 55, .p (.mov (.t 54)), none⟩,
    ⟨some 56, .p (.mov (.t 7)), some ⟨55, true⟩⟩,
    ⟨some 57, .p (.mov (.t 12)), some ⟨55, true⟩⟩,
    ⟨some 58, .p (.bin 3 .sub (.t 57) (.c (.int .i64 ((1 : Nat) : Int)))), some ⟨55, true⟩⟩,
    ⟨some 59, .p (.idxA 2 (.t 56) (.t 58)), some ⟨55, true⟩⟩,
    ⟨some 60, .p (.fieldA 0 0 (.t 59)), some ⟨55, true⟩⟩,
    ⟨some 61, .p (.load false 1 (.t 60)), some ⟨55, true⟩⟩,
    ⟨some 62, .p (.bin 3 .eql (.t 61) (.c (.int .i64 ((0 : Nat) : Int)))), some ⟨55, true⟩⟩,
    ⟨some 63, .p (.pick (.t 55) (.t 62) (.c (.bool false))), none⟩] [2, 7, 8, 9, 10, 11, 12, 63])
  (.cond (.t 63)
  (.skip)
  (.exit 2)))
  (.block 3 (.ops [⟨some 64, .p (.mov (.t 12)), none⟩,
    ⟨some 65, .p (.bin 3 .sub (.t 64) (.c (.int .i64 ((1 : Nat) : Int)))), none⟩,
    ⟨some 12, .p (.mov (.t 65)), none⟩] [2, 7, 8, 9, 10, 11, 12]))
def c_ref10_Patch_k3 : VCode := .seq (.block 5 (.seq (.ops [⟨some 83, .p (.mov (.t 7)), none⟩,
    ⟨some 84, .p (.mov (.t 14)), none⟩,
    ⟨some 85, .p (.idxA 2 (.t 83) (.t 84)), none⟩,
    ⟨some 86, .p (.fieldA 0 0 (.t 85)), none⟩,
    ⟨some 87, .p (.load false 1 (.t 86)), none⟩,
    ⟨some 88, .p (.bin 3 .neq (.t 87) (.c (.int .i64 ((0 : Nat) : Int)))), none⟩,
    ⟨some 89, .p (.mov (.t 88)), none⟩,
    ⟨some 90, .p (.mov (.t 14)), some ⟨89, true⟩⟩,
    ⟨some 91, .p (.mov (.t 13)), some ⟨89, true⟩⟩,
    ⟨some 92, .p (.bin 3 .sub (.t 90) (.t 91)), some ⟨89, true⟩⟩,
    ⟨some 93, .p (.bin 3 .sub (.t 92) (.c (.int .i64 ((1 : Nat) : Int)))), some ⟨89, true⟩⟩,
    ⟨some 94, .p (.mov (.t 2)), some ⟨89, true⟩⟩,
    ⟨some 95, .p (.bin 3 .mul (.c (.int .i64 ((2 : Nat) : Int))) (.t 94)), some ⟨89, true⟩⟩,
    ⟨some 96, .p (.bin 3 .leq (.t 93) (.t 95)), some ⟨89, true⟩⟩,
    ⟨some 97, .p (.pick (.t 89) (.t 96) (.c (.bool false))), none⟩] [2, 7, 8, 9, 10, 11, 12, 13, 14, 97])
  (.cond (.t 97)
  (.ops [⟨some 98, .p (.mov (.t 14)), none⟩,
      ⟨some 13, .p (.mov (.t 98)), none⟩] [2, 7, 8, 9, 10, 11, 12, 13, 14])
  (.skip))))
  (.ops [⟨some 81, .p (.mov (.t 14)), none⟩,
    ⟨some 82, .p (.bin 3 .add (.t 81) (.c (.int .i64 ((1 : Nat) : Int)))), none⟩,
    ⟨some 14, .p (.mov (.t 82)), none⟩] [2, 7, 8, 9, 10, 11, 12, 13, 14])
def c_ref10_Patch_L4 : VCode := .seq (.seq (.ops [⟨some 68, .p (.mov (.t 14)), none⟩,
    ⟨some 69, .p (.mov (.t 7)), none⟩,
    ⟨some 70, .p (.lenV (.t 69)), none⟩,
    ⟨some 71, .p (.bin 3 .lss (.t 68) (.t 70)), none⟩,
    ⟨some 72, .p (.mov (.t 71)), none⟩,
    ⟨some 73, .p (.mov (.t 14)), some ⟨72, true⟩⟩,
    ⟨some 74, .p (.mov (.t 13)), some ⟨72, true⟩⟩,
    ⟨some 75, .p (.bin 3 .sub (.t 73) (.t 74)), some ⟨72, true⟩⟩,
    ⟨some 76, .p (.mov (.t 2)), some ⟨72, true⟩⟩,
    ⟨some 77, .p (.bin 3 .mul (.c (.int .i64 ((2 : Nat) : Int))) (.t 76)), some ⟨72, true⟩⟩,
    ⟨some 78, .p (.bin 3 .add (.t 77) (.c (.int .i64 ((1 : Nat) : Int)))), some ⟨72, true⟩⟩,
    ⟨some 79, .p (.bin 3 .leq (.t 75) (.t 78)), some ⟨72, true⟩⟩,
    ⟨some 80, .p (.pick (.t 72) (.t 79) (.c (.bool false))), none⟩] [2, 7, 8, 9, 10, 11, 12, 13, 14, 80])
  (.cond (.t 80)
  (.skip)
  (.exit 4)))
  c_ref10_Patch_k3
def c_ref10_Patch_k5 : VCode := .block 4 (.loop [2, 7, 8, 9, 10, 11, 12, 13, 14] c_ref10_Patch_L4)
def c_ref10_Patch_L6 : VCode := .seq (.seq (.ops [⟨some 101, .p (.mov (.t 15)), none⟩,
    ⟨some 102, .p (.mov (.t 7)), none⟩,
    ⟨some 103, .p (.lenV (.t 102)), none⟩,
    ⟨some 104, .p (.bin 3 .lss (.t 101) (.t 103)), none⟩,
    ⟨some 105, .p (.mov (.t 104)), none⟩,
    ⟨some 106, .p (.mov (.t 15)), some ⟨105, true⟩⟩,
    ⟨some 107, .p (.mov (.t 13)), some ⟨105, true⟩⟩,
    ⟨some 108, .p (.bin 3 .sub (.t 106) (.t 107)), some ⟨105, true⟩⟩,
    ⟨some 109, .p (.mov (.t 2)), some ⟨105, true⟩⟩,
    ⟨some 110, .p (.bin 3 .leq (.t 108) (.t 109)), some ⟨105, true⟩⟩,
    ⟨some 111, .p (.pick (.t 105) (.t 110) (.c (.bool false))), none⟩,
    ⟨some 112, .p (.mov (.t 111)), none⟩,
    ⟨some 113, .p (.mov (.t 7)), some ⟨112, true⟩⟩,
    ⟨some 114, .p (.mov (.t 15)), some ⟨112, true⟩⟩,
    ⟨some 115, .p (.idxA 2 (.t 113) (.t 114)), some ⟨112, true⟩⟩,
    ⟨some 116, .p (.fieldA 0 0 (.t 115)), some ⟨112, true⟩⟩,
    ⟨some 117, .p (.load false 1 (.t 116)), some ⟨112, true⟩⟩,
    ⟨some 118, .p (.bin 3 .eql (.t 117) (.c (.int .i64 ((0 : Nat) : Int)))), some ⟨112, true⟩⟩,
    ⟨some 119, .p (.pick (.t 112) (.t 118) (.c (.bool false))), none⟩] [2, 7, 8, 9, 10, 11, 12, 13, 15, 119])
  (.cond (.t 119)
  (.skip)
  (.exit 6)))
  (.block 7 (.ops [⟨some 120, .p (.mov (.t 15)), none⟩,
    ⟨some 121, .p (.bin 3 .add (.t 120) (.c (.int .i64 ((1 : Nat) : Int)))), none⟩,
    ⟨some 15, .p (.mov (.t 121)), none⟩] [2, 7, 8, 9, 10, 11, 12, 13, 15]))
def c_ref10_Patch_k7 : VCode := .seq (.seq (.ops [⟨some 136, .p (.mov (.t 7)), none⟩,
    ⟨some 137, .p (.mov (.t 19)), none⟩,
    ⟨some 138, .p (.idxA 2 (.t 136) (.t 137)), none⟩,
    ⟨some 139, .p (.fieldA 0 0 (.t 138)), none⟩,
    ⟨some 140, .p (.load false 1 (.t 139)), none⟩,
    ⟨some 141, .p (.bin 3 .neq (.t 140) (.c (.int .i64 ((1 : Nat) : Int)))), none⟩] [2, 7, 8, 9, 10, 11, 12, 15, 16, 17, 18, 19, 141])
  (.cond (.t 141)
  (.ops [⟨some 142, .p (.mov (.t 17)), none⟩,
      ⟨some 143, .p (.bin 3 .add (.t 142) (.c (.int .i64 ((1 : Nat) : Int)))), none⟩,
      ⟨some 17, .p (.mov (.t 143)), none⟩] [2, 7, 8, 9, 10, 11, 12, 15, 16, 17, 18, 19])
  (.skip)))
  (.ops [⟨some 144, .p (.mov (.t 18)), none⟩,
    ⟨some 145, .p (.mov (.t 7)), none⟩,
    ⟨some 146, .p (.mov (.t 19)), none⟩,
    ⟨some 147, .p (.idxA 2 (.t 145) (.t 146)), none⟩,
    ⟨some 148, .p (.load true 2 (.t 147)), none⟩,
    ⟨some 149, .s (.call 61 [.t 148]), none⟩,
    ⟨some 150, .p (.bin 9 .add (.t 144) (.t 149)), none⟩,
    ⟨some 18, .p (.mov (.t 150)), none⟩] [2, 7, 8, 9, 10, 11, 12, 15, 16, 17, 18, 19])
def c_ref10_Patch_k8 : VCode := .seq (.block 9 (.seq (.seq (.ops [⟨some 128, .p (.mov (.t 7)), none⟩,
    ⟨some 129, .p (.mov (.t 19)), none⟩,
    ⟨some 130, .p (.idxA 2 (.t 128) (.t 129)), none⟩,
    ⟨some 131, .p (.fieldA 0 0 (.t 130)), none⟩,
    ⟨some 132, .p (.load false 1 (.t 131)), none⟩,
    ⟨some 133, .p (.bin 3 .neq (.t 132) (.c (.int .i64 ((2 : Nat) : Int)))), none⟩] [2, 7, 8, 9, 10, 11, 12, 15, 16, 17, 18, 19, 133])
  (.cond (.t 133)
  (.ops [⟨some 134, .p (.mov (.t 16)), none⟩,
      ⟨some 135, .p (.bin 3 .add (.t 134) (.c (.int .i64 ((1 : Nat) : Int)))), none⟩,
      ⟨some 16, .p (.mov (.t 135)), none⟩] [2, 7, 8, 9, 10, 11, 12, 15, 16, 17, 18, 19])
  (.skip)))
  c_ref10_Patch_k7))
  (.ops [⟨some 126, .p (.mov (.t 19)), none⟩,
    ⟨some 127, .p (.bin 3 .add (.t 126) (.c (.int .i64 ((1 : Nat) : Int)))), none⟩,
    ⟨some 19, .p (.mov (.t 127)), none⟩] [2, 7, 8, 9, 10, 11, 12, 15, 16, 17, 18, 19])
def c_ref10_Patch_L9 : VCode := .seq (.seq (.ops [⟨some 123, .p (.mov (.t 19)), none⟩,
    ⟨some 124, .p (.mov (.t 15)), none⟩,
    ⟨some 125, .p (.bin 3 .lss (.t 123) (.t 124)), none⟩] [2, 7, 8, 9, 10, 11, 12, 15, 16, 17, 18, 19, 125])
  (.cond (.t 125)
  (.skip)
  (.exit 8)))
  c_ref10_Patch_k8
def c_ref10_Patch_k10 : VCode := .block 8 (.loop [2, 7, 8, 9, 10, 11, 12, 15, 16, 17, 18, 19] c_ref10_Patch_L9)
def c_ref10_Patch_k11 : VCode := .seq (.ops [⟨some 161, .p (.mov (.t 8)), none⟩,
    ⟨some 162, .p (.bin 9 .add (.t 161) (.c (.string (str [64, 64, 32, 45])))), none⟩,
    ⟨some 163, .p (.mov (.t 20)), none⟩,
    ⟨some 164, .p (.mov (.t 16)), none⟩,
    ⟨some 165, .s (.call 62 [.t 163, .t 164]), none⟩,
    ⟨some 166, .p (.bin 9 .add (.t 162) (.t 165)), none⟩,
    ⟨some 167, .p (.bin 9 .add (.t 166) (.c (.string (str [32, 43])))), none⟩,
    ⟨some 168, .p (.mov (.t 21)), none⟩,
    ⟨some 169, .p (.mov (.t 17)), none⟩,
    ⟨some 170, .s (.call 62 [.t 168, .t 169]), none⟩,
    ⟨some 171, .p (.bin 9 .add (.t 167) (.t 170)), none⟩,
    ⟨some 172, .p (.bin 9 .add (.t 171) (.c (.string (str [32, 64, 64, 10])))), none⟩,
    ⟨some 173, .p (.mov (.t 18)), none⟩,
    ⟨some 174, .p (.bin 9 .add (.t 172) (.t 173)), none⟩,
    ⟨some 8, .p (.mov (.t 174)), none⟩] [2, 7, 8, 15, 16, 17, 20, 21])
  (.seq (.ops [⟨some 175, .p (.mov (.t 20)), none⟩,
    ⟨some 176, .p (.mov (.t 16)), none⟩,
    ⟨some 177, .p (.bin 3 .add (.t 175) (.t 176)), none⟩,
    ⟨some 9, .p (.mov (.t 177)), none⟩] [2, 7, 8, 9, 15, 17, 21])
  (.seq (.ops [⟨some 178, .p (.mov (.t 21)), none⟩,
    ⟨some 179, .p (.mov (.t 17)), none⟩,
    ⟨some 180, .p (.bin 3 .add (.t 178) (.t 179)), none⟩,
    ⟨some 10, .p (.mov (.t 180)), none⟩] [2, 7, 8, 9, 10, 15])
  (.ops [⟨some 181, .p (.mov (.t 15)), none⟩,
    ⟨some 11, .p (.mov (.t 181)), none⟩] [2, 7, 8, 9, 10, 11])))
def c_ref10_Patch_k12 : VCode := .seq (.ops [⟨some 156, .p (.mov (.t 10)), none⟩,
    ⟨some 157, .p (.mov (.t 11)), none⟩,
    ⟨some 158, .p (.mov (.t 12)), none⟩,
    ⟨some 159, .p (.bin 3 .sub (.t 157) (.t 158)), none⟩,
    ⟨some 160, .p (.bin 3 .sub (.t 156) (.t 159)), none⟩,
    ⟨some 21, .p (.mov (.t 160)), none⟩] [2, 7, 8, 15, 16, 17, 18, 20, 21])
  c_ref10_Patch_k11
def c_ref10_Patch_k13 : VCode := .seq (.ops [⟨some 151, .p (.mov (.t 9)), none⟩,
    ⟨some 152, .p (.mov (.t 11)), none⟩,
    ⟨some 153, .p (.mov (.t 12)), none⟩,
    ⟨some 154, .p (.bin 3 .sub (.t 152) (.t 153)), none⟩,
    ⟨some 155, .p (.bin 3 .sub (.t 151) (.t 154)), none⟩,
    ⟨some 20, .p (.mov (.t 155)), none⟩] [2, 7, 8, 10, 11, 12, 15, 16, 17, 18, 20])
  c_ref10_Patch_k12
def c_ref10_Patch_k14 : VCode := .seq (.seq (.ops [⟨some 122, .p (.mov (.t 12)), none⟩,
    ⟨some 19, .p (.mov (.t 122)), none⟩] [2, 7, 8, 9, 10, 11, 12, 15, 16, 17, 18, 19])
  c_ref10_Patch_k10)
  c_ref10_Patch_k13
def c_ref10_Patch_k15 : VCode := .seq (.ops [⟨some 18, .p (.mov (.c (.string (str [])))), none⟩] [2, 7, 8, 9, 10, 11, 12, 15, 16, 17, 18])
  c_ref10_Patch_k14
def c_ref10_Patch_k16 : VCode := .seq (.ops [⟨some 17, .p (.mov (.c (.int .i64 ((0 : Nat) : Int)))), none⟩] [2, 7, 8, 9, 10, 11, 12, 15, 16, 17])
  c_ref10_Patch_k15
def c_ref10_Patch_k17 : VCode := .seq (.ops [⟨some 16, .p (.mov (.c (.int .i64 ((0 : Nat) : Int)))), none⟩] [2, 7, 8, 9, 10, 11, 12, 15, 16])
  c_ref10_Patch_k16
def c_ref10_Patch_k18 : VCode := .seq (.block 6 (.loop [2, 7, 8, 9, 10, 11, 12, 13, 15] c_ref10_Patch_L6))
  c_ref10_Patch_k17
def c_ref10_Patch_k19 : VCode := .seq (.ops [⟨some 99, .p (.mov (.t 13)), none⟩,
    ⟨some 100, .p (.bin 3 .add (.t 99) (.c (.int .i64 ((1 : Nat) : Int)))), none⟩,
    ⟨some 15, .p (.mov (.t 100)), none⟩] [2, 7, 8, 9, 10, 11, 12, 13, 15])
  c_ref10_Patch_k18
def c_ref10_Patch_k20 : VCode := .seq (.seq (.ops [⟨some 67, .p (.mov (.t 11)), none⟩,
    ⟨some 14, .p (.mov (.t 67)), none⟩] [2, 7, 8, 9, 10, 11, 12, 13, 14])
  c_ref10_Patch_k5)
  c_ref10_Patch_k19
def c_ref10_Patch_k21 : VCode := .seq (.ops [⟨some 66, .p (.mov (.t 11)), none⟩,
    ⟨some 13, .p (.mov (.t 66)), none⟩] [2, 7, 8, 9, 10, 11, 12, 13])
  c_ref10_Patch_k20
def c_ref10_Patch_k22 : VCode := .seq (.block 2 (.loop [2, 7, 8, 9, 10, 11, 12] c_ref10_Patch_L2))
  c_ref10_Patch_k21
def c_ref10_Patch_k23 : VCode := .seq (.ops [⟨some 45, .p (.mov (.t 11)), none⟩,
    ⟨some 12, .p (.mov (.t 45)), none⟩] [2, 7, 8, 9, 10, 11, 12])
  c_ref10_Patch_k22
def c_ref10_Patch_k24 : VCode := .block 1 (.seq (.seq (.ops [⟨some 33, .p (.mov (.t 7)), none⟩,
    ⟨some 34, .p (.mov (.t 11)), none⟩,
    ⟨some 35, .p (.idxA 2 (.t 33) (.t 34)), none⟩,
    ⟨some 36, .p (.fieldA 0 0 (.t 35)), none⟩,
    ⟨some 37, .p (.load false 1 (.t 36)), none⟩,
    ⟨some 38, .p (.bin 3 .eql (.t 37) (.c (.int .i64 ((0 : Nat) : Int)))), none⟩] [2, 7, 8, 9, 10, 11, 38])
  (.cond (.t 38)
  c_ref10_Patch_b1
  (.skip)))
  c_ref10_Patch_k23)
def c_ref10_Patch_L25 : VCode := .seq (.seq (.ops [⟨some 29, .p (.mov (.t 11)), none⟩,
    ⟨some 30, .p (.mov (.t 7)), none⟩,
    ⟨some 31, .p (.lenV (.t 30)), none⟩,
    ⟨some 32, .p (.bin 3 .lss (.t 29) (.t 31)), none⟩] [2, 7, 8, 9, 10, 11, 32])
  (.cond (.t 32)
  (.skip)
  (.exit 0)))
  c_ref10_Patch_k24
def c_ref10_Patch_k26 : VCode := .seq (.ops [⟨some 182, .p (.mov (.t 8)), none⟩,
    ⟨some 183, .s (.s2b (.t 182)), none⟩,
    ⟨some 6, .p (.mov (.t 183)), none⟩] [6])
  (.ret)
def c_ref10_Patch_k27 : VCode := .seq (.block 0 (.loop [2, 7, 8, 9, 10, 11] c_ref10_Patch_L25))
  c_ref10_Patch_k26
def c_ref10_Patch_k28 : VCode := .seq (.ops [⟨some 11, .p (.mov (.c (.int .i64 ((0 : Nat) : Int)))), none⟩] [2, 7, 8, 9, 10, 11])
  c_ref10_Patch_k27
def c_ref10_Patch_k29 : VCode := .seq (.ops [⟨some 10, .p (.mov (.c (.int .i64 ((0 : Nat) : Int)))), none⟩] [2, 7, 8, 9, 10])
  c_ref10_Patch_k28
def c_ref10_Patch_k30 : VCode := .seq (.ops [⟨some 9, .p (.mov (.c (.int .i64 ((0 : Nat) : Int)))), none⟩] [2, 7, 8, 9])
  c_ref10_Patch_k29
def c_ref10_Patch_k31 : VCode := .seq (.ops [⟨some 8, .p (.mov (.c (.string (str [])))), none⟩] [2, 7, 8])
  c_ref10_Patch_k30
def c_ref10_Patch_k32 : VCode := .seq (.seq (.ops [⟨some 27, .p (.mov (.t 2)), none⟩,
    ⟨some 28, .p (.bin 3 .gtr (.t 27) (.c (.int .i64 ((1000 : Nat) : Int)))), none⟩] [2, 7, 28])
  (.cond (.t 28)
  (.ops [⟨some 2, .p (.mov (.c (.int .i64 ((1000 : Nat) : Int)))), none⟩] [2, 7])
  (.skip)))
  c_ref10_Patch_k31
def c_ref10_Patch_k33 : VCode := .seq (.seq (.ops [⟨some 25, .p (.mov (.t 2)), none⟩,
    ⟨some 26, .p (.bin 3 .lss (.t 25) (.c (.int .i64 ((0 : Nat) : Int)))), none⟩] [2, 7, 26])
  (.cond (.t 26)
  (.ops [⟨some 2, .p (.mov (.c (.int .i64 ((0 : Nat) : Int)))), none⟩] [2, 7])
  (.skip)))
  c_ref10_Patch_k32
def c_ref10_Patch_k34 : VCode := .seq (.ops [⟨some 22, .p (.mov (.t 0)), none⟩,
    ⟨some 23, .p (.mov (.t 1)), none⟩,
    ⟨some 24, .s (.call 60 [.t 22, .t 23]), none⟩,
    ⟨some 7, .p (.mov (.t 24)), none⟩] [2, 7])
  c_ref10_Patch_k33
def c_ref10_Patch : VCode := .seq (.ops [⟨some 6, .p (.mov (.c (.slice none 0 0))), none⟩] [0, 1, 2])
  c_ref10_Patch_k34
def r_ref10_Patch : List VR := [.tmp 6]
theorem t_ref10_Patch : Tryd.f20.body.bind (trC Tryd.prog Tryd.f20.ntmps) = some (er c_ref10_Patch) := by kernel_rfl
theorem w_ref10_Patch : trR Tryd.prog Tryd.f20.results.toList = some r_ref10_Patch := by kernel_rfl
theorem u_ref10_Patch_b1_e {P : Program} {Q : VEx → Env → List Ob → Prop} {e : Env} {H : List Ob} : vwp P c_ref10_Patch_b1 Q e H = vwp P (.seq (.ops [⟨some 39, .p (.mov (.t 11)), none⟩,
    ⟨some 40, .p (.bin 3 .add (.t 39) (.c (.int .i64 ((1 : Nat) : Int)))), none⟩,
    ⟨some 11, .p (.mov (.t 40)), none⟩] [2, 7, 8, 9, 10, 11])
  (.seq (.ops [⟨some 41, .p (.mov (.t 9)), none⟩,
    ⟨some 42, .p (.bin 3 .add (.t 41) (.c (.int .i64 ((1 : Nat) : Int)))), none⟩,
    ⟨some 9, .p (.mov (.t 42)), none⟩] [2, 7, 8, 9, 10, 11])
  (.seq (.ops [⟨some 43, .p (.mov (.t 10)), none⟩,
    ⟨some 44, .p (.bin 3 .add (.t 43) (.c (.int .i64 ((1 : Nat) : Int)))), none⟩,
    ⟨some 10, .p (.mov (.t 44)), none⟩] [2, 7, 8, 9, 10, 11])
  (.exit 1)))) Q e H := by_refl rfl
theorem u_ref10_Patch_L2_e {P : Program} {Q : VEx → Env → List Ob → Prop} {e : Env} {H : List Ob} : vwp P c_ref10_Patch_L2 Q e H = vwp P (.seq (.seq (.ops [⟨some 46, .p (.mov (.t 12)), none⟩,
    ⟨some 47, .p (.bin 3 .gtr (.t 46) (.c (.int .i64 ((0 : Nat) : Int)))), none⟩,
    ⟨some 48, .p (.mov (.t 47)), none⟩,
    ⟨some 49, .p (.mov (.t 11)), some ⟨48, true⟩⟩,
    ⟨some 50, .p (.mov (.t 12)), some ⟨48, true⟩⟩,
    ⟨some 51, .p (.bin 3 .sub (.t 49) (.t 50)), some ⟨48, true⟩⟩,
    ⟨some 52, .p (.mov (.t 2)), some ⟨48, true⟩⟩,
    ⟨some 53, .p (.bin 3 .lss (.t 51) (.t 52)), some ⟨48, true⟩⟩,
    ⟨some 54, .p (.pick (.t 48) (.t 53) (.c (.bool false))), none⟩,
    ⟨some 55, .p (.mov (.t 54)), none⟩,
    ⟨some 56, .p (.mov (.t 7)), some ⟨55, true⟩⟩,
    ⟨some 57, .p (.mov (.t 12)), some ⟨55, true⟩⟩,
    ⟨some 58, .p (.bin 3 .sub (.t 57) (.c (.int .i64 ((1 : Nat) : Int)))), some ⟨55, true⟩⟩,
    ⟨some 59, .p (.idxA 2 (.t 56) (.t 58)), some ⟨55, true⟩⟩,
    ⟨some 60, .p (.fieldA 0 0 (.t 59)), some ⟨55, true⟩⟩,
    ⟨some 61, .p (.load false 1 (.t 60)), some ⟨55, true⟩⟩,
    ⟨some 62, .p (.bin 3 .eql (.t 61) (.c (.int .i64 ((0 : Nat) : Int)))), some ⟨55, true⟩⟩,
    ⟨some 63, .p (.pick (.t 55) (.t 62) (.c (.bool false))), none⟩] [2, 7, 8, 9, 10, 11, 12, 63])
  (.cond (.t 63)
  (.skip)
  (.exit 2)))
  (.block 3 (.ops [⟨some 64, .p (.mov (.t 12)), none⟩,
    ⟨some 65, .p (.bin 3 .sub (.t 64) (.c (.int .i64 ((1 : Nat) : Int)))), none⟩,
    ⟨some 12, .p (.mov (.t 65)), none⟩] [2, 7, 8, 9, 10, 11, 12]))) Q e H := by_refl rfl
theorem u_ref10_Patch_k3_e {P : Program} {Q : VEx → Env → List Ob → Prop} {e : Env} {H : List Ob} : vwp P c_ref10_Patch_k3 Q e H = vwp P (.seq (.block 5 (.seq (.ops [⟨some 83, .p (.mov (.t 7)), none⟩,
    ⟨some 84, .p (.mov (.t 14)), none⟩,
    ⟨some 85, .p (.idxA 2 (.t 83) (.t 84)), none⟩,
    ⟨some 86, .p (.fieldA 0 0 (.t 85)), none⟩,
    ⟨some 87, .p (.load false 1 (.t 86)), none⟩,
    ⟨some 88, .p (.bin 3 .neq (.t 87) (.c (.int .i64 ((0 : Nat) : Int)))), none⟩,
    ⟨some 89, .p (.mov (.t 88)), none⟩,
    ⟨some 90, .p (.mov (.t 14)), some ⟨89, true⟩⟩,
    ⟨some 91, .p (.mov (.t 13)), some ⟨89, true⟩⟩,
    ⟨some 92, .p (.bin 3 .sub (.t 90) (.t 91)), some ⟨89, true⟩⟩,
    ⟨some 93, .p (.bin 3 .sub (.t 92) (.c (.int .i64 ((1 : Nat) : Int)))), some ⟨89, true⟩⟩,
    ⟨some 94, .p (.mov (.t 2)), some ⟨89, true⟩⟩,
    ⟨some 95, .p (.bin 3 .mul (.c (.int .i64 ((2 : Nat) : Int))) (.t 94)), some ⟨89, true⟩⟩,
    ⟨some 96, .p (.bin 3 .leq (.t 93) (.t 95)), some ⟨89, true⟩⟩,
    ⟨some 97, .p (.pick (.t 89) (.t 96) (.c (.bool false))), none⟩] [2, 7, 8, 9, 10, 11, 12, 13, 14, 97])
  (.cond (.t 97)
  (.ops [⟨some 98, .p (.mov (.t 14)), none⟩,
      ⟨some 13, .p (.mov (.t 98)), none⟩] [2, 7, 8, 9, 10, 11, 12, 13, 14])
  (.skip))))
  (.ops [⟨some 81, .p (.mov (.t 14)), none⟩,
    ⟨some 82, .p (.bin 3 .add (.t 81) (.c (.int .i64 ((1 : Nat) : Int)))), none⟩,
    ⟨some 14, .p (.mov (.t 82)), none⟩] [2, 7, 8, 9, 10, 11, 12, 13, 14])) Q e H := by_refl rfl
theorem u_ref10_Patch_L4_e {P : Program} {Q : VEx → Env → List Ob → Prop} {e : Env} {H : List Ob} : vwp P c_ref10_Patch_L4 Q e H = vwp P (.seq (.seq (.ops [⟨some 68, .p (.mov (.t 14)), none⟩,
    ⟨some 69, .p (.mov (.t 7)), none⟩,
    ⟨some 70, .p (.lenV (.t 69)), none⟩,
    ⟨some 71, .p (.bin 3 .lss (.t 68) (.t 70)), none⟩,
    ⟨some 72, .p (.mov (.t 71)), none⟩,
    ⟨some 73, .p (.mov (.t 14)), some ⟨72, true⟩⟩,
    ⟨some 74, .p (.mov (.t 13)), some ⟨72, true⟩⟩,
    ⟨some 75, .p (.bin 3 .sub (.t 73) (.t 74)), some ⟨72, true⟩⟩,
    ⟨some 76, .p (.mov (.t 2)), some ⟨72, true⟩⟩,
    ⟨some 77, .p (.bin 3 .mul (.c (.int .i64 ((2 : Nat) : Int))) (.t 76)), some ⟨72, true⟩⟩,
    ⟨some 78, .p (.bin 3 .add (.t 77) (.c (.int .i64 ((1 : Nat) : Int)))), some ⟨72, true⟩⟩,
    ⟨some 79, .p (.bin 3 .leq (.t 75) (.t 78)), some ⟨72, true⟩⟩,
    ⟨some 80, .p (.pick (.t 72) (.t 79) (.c (.bool false))), none⟩] [2, 7, 8, 9, 10, 11, 12, 13, 14, 80])
  (.cond (.t 80)
  (.skip)
  (.exit 4)))
  c_ref10_Patch_k3) Q e H := by_refl rfl
theorem u_ref10_Patch_k5_e {P : Program} {Q : VEx → Env → List Ob → Prop} {e : Env} {H : List Ob} : vwp P c_ref10_Patch_k5 Q e H = vwp P (.block 4 (.loop [2, 7, 8, 9, 10, 11, 12, 13, 14] c_ref10_Patch_L4)) Q e H := by_refl rfl
theorem u_ref10_Patch_L6_e {P : Program} {Q : VEx → Env → List Ob → Prop} {e : Env} {H : List Ob} : vwp P c_ref10_Patch_L6 Q e H = vwp P (.seq (.seq (.ops [⟨some 101, .p (.mov (.t 15)), none⟩,
    ⟨some 102, .p (.mov (.t 7)), none⟩,
    ⟨some 103, .p (.lenV (.t 102)), none⟩,
    ⟨some 104, .p (.bin 3 .lss (.t 101) (.t 103)), none⟩,
    ⟨some 105, .p (.mov (.t 104)), none⟩,
    ⟨some 106, .p (.mov (.t 15)), some ⟨105, true⟩⟩,
    ⟨some 107, .p (.mov (.t 13)), some ⟨105, true⟩⟩,
    ⟨some 108, .p (.bin 3 .sub (.t 106) (.t 107)), some ⟨105, true⟩⟩,
    ⟨some 109, .p (.mov (.t 2)), some ⟨105, true⟩⟩,
    ⟨some 110, .p (.bin 3 .leq (.t 108) (.t 109)), some ⟨105, true⟩⟩,
    ⟨some 111, .p (.pick (.t 105) (.t 110) (.c (.bool false))), none⟩,
    ⟨some 112, .p (.mov (.t 111)), none⟩,
    ⟨some 113, .p (.mov (.t 7)), some ⟨112, true⟩⟩,
    ⟨some 114, .p (.mov (.t 15)), some ⟨112, true⟩⟩,
    ⟨some 115, .p (.idxA 2 (.t 113) (.t 114)), some ⟨112, true⟩⟩,
    ⟨some 116, .p (.fieldA 0 0 (.t 115)), some ⟨112, true⟩⟩,
    ⟨some 117, .p (.load false 1 (.t 116)), some ⟨112, true⟩⟩,
    ⟨some 118, .p (.bin 3 .eql (.t 117) (.c (.int .i64 ((0 : Nat) : Int)))), some ⟨112, true⟩⟩,
    ⟨some 119, .p (.pick (.t 112) (.t 118) (.c (.bool false))), none⟩] [2, 7, 8, 9, 10, 11, 12, 13, 15, 119])
  (.cond (.t 119)
  (.skip)
  (.exit 6)))
  (.block 7 (.ops [⟨some 120, .p (.mov (.t 15)), none⟩,
    ⟨some 121, .p (.bin 3 .add (.t 120) (.c (.int .i64 ((1 : Nat) : Int)))), none⟩,
    ⟨some 15, .p (.mov (.t 121)), none⟩] [2, 7, 8, 9, 10, 11, 12, 13, 15]))) Q e H := by_refl rfl
theorem u_ref10_Patch_k7_e {P : Program} {Q : VEx → Env → List Ob → Prop} {e : Env} {H : List Ob} : vwp P c_ref10_Patch_k7 Q e H = vwp P (.seq (.seq (.ops [⟨some 136, .p (.mov (.t 7)), none⟩,
    ⟨some 137, .p (.mov (.t 19)), none⟩,
    ⟨some 138, .p (.idxA 2 (.t 136) (.t 137)), none⟩,
    ⟨some 139, .p (.fieldA 0 0 (.t 138)), none⟩,
    ⟨some 140, .p (.load false 1 (.t 139)), none⟩,
    ⟨some 141, .p (.bin 3 .neq (.t 140) (.c (.int .i64 ((1 : Nat) : Int)))), none⟩] [2, 7, 8, 9, 10, 11, 12, 15, 16, 17, 18, 19, 141])
  (.cond (.t 141)
  (.ops [⟨some 142, .p (.mov (.t 17)), none⟩,
      ⟨some 143, .p (.bin 3 .add (.t 142) (.c (.int .i64 ((1 : Nat) : Int)))), none⟩,
      ⟨some 17, .p (.mov (.t 143)), none⟩] [2, 7, 8, 9, 10, 11, 12, 15, 16, 17, 18, 19])
  (.skip)))
  (.ops [⟨some 144, .p (.mov (.t 18)), none⟩,
    ⟨some 145, .p (.mov (.t 7)), none⟩,
    ⟨some 146, .p (.mov (.t 19)), none⟩,
    ⟨some 147, .p (.idxA 2 (.t 145) (.t 146)), none⟩,
    ⟨some 148, .p (.load true 2 (.t 147)), none⟩,
    ⟨some 149, .s (.call 61 [.t 148]), none⟩,
    ⟨some 150, .p (.bin 9 .add (.t 144) (.t 149)), none⟩,
    ⟨some 18, .p (.mov (.t 150)), none⟩] [2, 7, 8, 9, 10, 11, 12, 15, 16, 17, 18, 19])) Q e H := by_refl rfl
theorem u_ref10_Patch_k8_e {P : Program} {Q : VEx → Env → List Ob → Prop} {e : Env} {H : List Ob} : vwp P c_ref10_Patch_k8 Q e H = vwp P (.seq (.block 9 (.seq (.seq (.ops [⟨some 128, .p (.mov (.t 7)), none⟩,
    ⟨some 129, .p (.mov (.t 19)), none⟩,
    ⟨some 130, .p (.idxA 2 (.t 128) (.t 129)), none⟩,
    ⟨some 131, .p (.fieldA 0 0 (.t 130)), none⟩,
    ⟨some 132, .p (.load false 1 (.t 131)), none⟩,
    ⟨some 133, .p (.bin 3 .neq (.t 132) (.c (.int .i64 ((2 : Nat) : Int)))), none⟩] [2, 7, 8, 9, 10, 11, 12, 15, 16, 17, 18, 19, 133])
  (.cond (.t 133)
  (.ops [⟨some 134, .p (.mov (.t 16)), none⟩,
      ⟨some 135, .p (.bin 3 .add (.t 134) (.c (.int .i64 ((1 : Nat) : Int)))), none⟩,
      ⟨some 16, .p (.mov (.t 135)), none⟩] [2, 7, 8, 9, 10, 11, 12, 15, 16, 17, 18, 19])
  (.skip)))
  c_ref10_Patch_k7))
  (.ops [⟨some 126, .p (.mov (.t 19)), none⟩,
    ⟨some 127, .p (.bin 3 .add (.t 126) (.c (.int .i64 ((1 : Nat) : Int)))), none⟩,
    ⟨some 19, .p (.mov (.t 127)), none⟩] [2, 7, 8, 9, 10, 11, 12, 15, 16, 17, 18, 19])) Q e H := by_refl rfl
theorem u_ref10_Patch_L9_e {P : Program} {Q : VEx → Env → List Ob → Prop} {e : Env} {H : List Ob} : vwp P c_ref10_Patch_L9 Q e H = vwp P (.seq (.seq (.ops [⟨some 123, .p (.mov (.t 19)), none⟩,
    ⟨some 124, .p (.mov (.t 15)), none⟩,
    ⟨some 125, .p (.bin 3 .lss (.t 123) (.t 124)), none⟩] [2, 7, 8, 9, 10, 11, 12, 15, 16, 17, 18, 19, 125])
  (.cond (.t 125)
  (.skip)
  (.exit 8)))
  c_ref10_Patch_k8) Q e H := by_refl rfl
theorem u_ref10_Patch_k10_e {P : Program} {Q : VEx → Env → List Ob → Prop} {e : Env} {H : List Ob} : vwp P c_ref10_Patch_k10 Q e H = vwp P (.block 8 (.loop [2, 7, 8, 9, 10, 11, 12, 15, 16, 17, 18, 19] c_ref10_Patch_L9)) Q e H := by_refl rfl
theorem u_ref10_Patch_k11_e {P : Program} {Q : VEx → Env → List Ob → Prop} {e : Env} {H : List Ob} : vwp P c_ref10_Patch_k11 Q e H = vwp P (.seq (.ops [⟨some 161, .p (.mov (.t 8)), none⟩,
    ⟨some 162, .p (.bin 9 .add (.t 161) (.c (.string (str [64, 64, 32, 45])))), none⟩,
    ⟨some 163, .p (.mov (.t 20)), none⟩,
    ⟨some 164, .p (.mov (.t 16)), none⟩,
    ⟨some 165, .s (.call 62 [.t 163, .t 164]), none⟩,
    ⟨some 166, .p (.bin 9 .add (.t 162) (.t 165)), none⟩,
    ⟨some 167, .p (.bin 9 .add (.t 166) (.c (.string (str [32, 43])))), none⟩,
    ⟨some 168, .p (.mov (.t 21)), none⟩,
    ⟨some 169, .p (.mov (.t 17)), none⟩,
    ⟨some 170, .s (.call 62 [.t 168, .t 169]), none⟩,
    ⟨some 171, .p (.bin 9 .add (.t 167) (.t 170)), none⟩,
    ⟨some 172, .p (.bin 9 .add (.t 171) (.c (.string (str [32, 64, 64, 10])))), none⟩,
    ⟨some 173, .p (.mov (.t 18)), none⟩,
    ⟨some 174, .p (.bin 9 .add (.t 172) (.t 173)), none⟩,
    ⟨some 8, .p (.mov (.t 174)), none⟩] [2, 7, 8, 15, 16, 17, 20, 21])
  (.seq (.ops [⟨some 175, .p (.mov (.t 20)), none⟩,
    ⟨some 176, .p (.mov (.t 16)), none⟩,
    ⟨some 177, .p (.bin 3 .add (.t 175) (.t 176)), none⟩,
    ⟨some 9, .p (.mov (.t 177)), none⟩] [2, 7, 8, 9, 15, 17, 21])
  (.seq (.ops [⟨some 178, .p (.mov (.t 21)), none⟩,
    ⟨some 179, .p (.mov (.t 17)), none⟩,
    ⟨some 180, .p (.bin 3 .add (.t 178) (.t 179)), none⟩,
    ⟨some 10, .p (.mov (.t 180)), none⟩] [2, 7, 8, 9, 10, 15])
  (.ops [⟨some 181, .p (.mov (.t 15)), none⟩,
    ⟨some 11, .p (.mov (.t 181)), none⟩] [2, 7, 8, 9, 10, 11])))) Q e H := by_refl rfl
theorem u_ref10_Patch_k12_e {P : Program} {Q : VEx → Env → List Ob → Prop} {e : Env} {H : List Ob} : vwp P c_ref10_Patch_k12 Q e H = vwp P (.seq (.ops [⟨some 156, .p (.mov (.t 10)), none⟩,
    ⟨some 157, .p (.mov (.t 11)), none⟩,
    ⟨some 158, .p (.mov (.t 12)), none⟩,
    ⟨some 159, .p (.bin 3 .sub (.t 157) (.t 158)), none⟩,
    ⟨some 160, .p (.bin 3 .sub (.t 156) (.t 159)), none⟩,
    ⟨some 21, .p (.mov (.t 160)), none⟩] [2, 7, 8, 15, 16, 17, 18, 20, 21])
  c_ref10_Patch_k11) Q e H := by_refl rfl
theorem u_ref10_Patch_k13_e {P : Program} {Q : VEx → Env → List Ob → Prop} {e : Env} {H : List Ob} : vwp P c_ref10_Patch_k13 Q e H = vwp P (.seq (.ops [⟨some 151, .p (.mov (.t 9)), none⟩,
    ⟨some 152, .p (.mov (.t 11)), none⟩,
    ⟨some 153, .p (.mov (.t 12)), none⟩,
    ⟨some 154, .p (.bin 3 .sub (.t 152) (.t 153)), none⟩,
    ⟨some 155, .p (.bin 3 .sub (.t 151) (.t 154)), none⟩,
    ⟨some 20, .p (.mov (.t 155)), none⟩] [2, 7, 8, 10, 11, 12, 15, 16, 17, 18, 20])
  c_ref10_Patch_k12) Q e H := by_refl rfl
theorem u_ref10_Patch_k14_e {P : Program} {Q : VEx → Env → List Ob → Prop} {e : Env} {H : List Ob} : vwp P c_ref10_Patch_k14 Q e H = vwp P (.seq (.seq (.ops [⟨some 122, .p (.mov (.t 12)), none⟩,
    ⟨some 19, .p (.mov (.t 122)), none⟩] [2, 7, 8, 9, 10, 11, 12, 15, 16, 17, 18, 19])
  c_ref10_Patch_k10)
  c_ref10_Patch_k13) Q e H := by_refl rfl
theorem u_ref10_Patch_k15_e {P : Program} {Q : VEx → Env → List Ob → Prop} {e : Env} {H : List Ob} : vwp P c_ref10_Patch_k15 Q e H = vwp P (.seq (.ops [⟨some 18, .p (.mov (.c (.string (str [])))), none⟩] [2, 7, 8, 9, 10, 11, 12, 15, 16, 17, 18])
  c_ref10_Patch_k14) Q e H := by_refl rfl
theorem u_ref10_Patch_k16_e {P : Program} {Q : VEx → Env → List Ob → Prop} {e : Env} {H : List Ob} : vwp P c_ref10_Patch_k16 Q e H = vwp P (.seq (.ops [⟨some 17, .p (.mov (.c (.int .i64 ((0 : Nat) : Int)))), none⟩] [2, 7, 8, 9, 10, 11, 12, 15, 16, 17])
  c_ref10_Patch_k15) Q e H := by_refl rfl
theorem u_ref10_Patch_k17_e {P : Program} {Q : VEx → Env → List Ob → Prop} {e : Env} {H : List Ob} : vwp P c_ref10_Patch_k17 Q e H = vwp P (.seq (.ops [⟨some 16, .p (.mov (.c (.int .i64 ((0 : Nat) : Int)))), none⟩] [2, 7, 8, 9, 10, 11, 12, 15, 16])
  c_ref10_Patch_k16) Q e H := by_refl rfl
theorem u_ref10_Patch_k18_e {P : Program} {Q : VEx → Env → List Ob → Prop} {e : Env} {H : List Ob} : vwp P c_ref10_Patch_k18 Q e H = vwp P (.seq (.block 6 (.loop [2, 7, 8, 9, 10, 11, 12, 13, 15] c_ref10_Patch_L6))
  c_ref10_Patch_k17) Q e H := by_refl rfl
theorem u_ref10_Patch_k19_e {P : Program} {Q : VEx → Env → List Ob → Prop} {e : Env} {H : List Ob} : vwp P c_ref10_Patch_k19 Q e H = vwp P (.seq (.ops [⟨some 99, .p (.mov (.t 13)), none⟩,
    ⟨some 100, .p (.bin 3 .add (.t 99) (.c (.int .i64 ((1 : Nat) : Int)))), none⟩,
    ⟨some 15, .p (.mov (.t 100)), none⟩] [2, 7, 8, 9, 10, 11, 12, 13, 15])
  c_ref10_Patch_k18) Q e H := by_refl rfl
theorem u_ref10_Patch_k20_e {P : Program} {Q : VEx → Env → List Ob → Prop} {e : Env} {H : List Ob} : vwp P c_ref10_Patch_k20 Q e H = vwp P (.seq (.seq (.ops [⟨some 67, .p (.mov (.t 11)), none⟩,
    ⟨some 14, .p (.mov (.t 67)), none⟩] [2, 7, 8, 9, 10, 11, 12, 13, 14])
  c_ref10_Patch_k5)
  c_ref10_Patch_k19) Q e H := by_refl rfl
theorem u_ref10_Patch_k21_e {P : Program} {Q : VEx → Env → List Ob → Prop} {e : Env} {H : List Ob} : vwp P c_ref10_Patch_k21 Q e H = vwp P (.seq (.ops [⟨some 66, .p (.mov (.t 11)), none⟩,
    ⟨some 13, .p (.mov (.t 66)), none⟩] [2, 7, 8, 9, 10, 11, 12, 13])
  c_ref10_Patch_k20) Q e H := by_refl rfl
theorem u_ref10_Patch_k22_e {P : Program} {Q : VEx → Env → List Ob → Prop} {e : Env} {H : List Ob} : vwp P c_ref10_Patch_k22 Q e H = vwp P (.seq (.block 2 (.loop [2, 7, 8, 9, 10, 11, 12] c_ref10_Patch_L2))
  c_ref10_Patch_k21) Q e H := by_refl rfl
theorem u_ref10_Patch_k23_e {P : Program} {Q : VEx → Env → List Ob → Prop} {e : Env} {H : List Ob} : vwp P c_ref10_Patch_k23 Q e H = vwp P (.seq (.ops [⟨some 45, .p (.mov (.t 11)), none⟩,
    ⟨some 12, .p (.mov (.t 45)), none⟩] [2, 7, 8, 9, 10, 11, 12])
  c_ref10_Patch_k22) Q e H := by_refl rfl
theorem u_ref10_Patch_k24_e {P : Program} {Q : VEx → Env → List Ob → Prop} {e : Env} {H : List Ob} : vwp P c_ref10_Patch_k24 Q e H = vwp P (.block 1 (.seq (.seq (.ops [⟨some 33, .p (.mov (.t 7)), none⟩,
    ⟨some 34, .p (.mov (.t 11)), none⟩,
    ⟨some 35, .p (.idxA 2 (.t 33) (.t 34)), none⟩,
    ⟨some 36, .p (.fieldA 0 0 (.t 35)), none⟩,
    ⟨some 37, .p (.load false 1 (.t 36)), none⟩,
    ⟨some 38, .p (.bin 3 .eql (.t 37) (.c (.int .i64 ((0 : Nat) : Int)))), none⟩] [2, 7, 8, 9, 10, 11, 38])
  (.cond (.t 38)
  c_ref10_Patch_b1
  (.skip)))
  c_ref10_Patch_k23)) Q e H := by_refl rfl
theorem u_ref10_Patch_L25_e {P : Program} {Q : VEx → Env → List Ob → Prop} {e : Env} {H : List Ob} : vwp P c_ref10_Patch_L25 Q e H = vwp P (.seq (.seq (.ops [⟨some 29, .p (.mov (.t 11)), none⟩,
    ⟨some 30, .p (.mov (.t 7)), none⟩,
    ⟨some 31, .p (.lenV (.t 30)), none⟩,
    ⟨some 32, .p (.bin 3 .lss (.t 29) (.t 31)), none⟩] [2, 7, 8, 9, 10, 11, 32])
  (.cond (.t 32)
  (.skip)
  (.exit 0)))
  c_ref10_Patch_k24) Q e H := by_refl rfl
theorem u_ref10_Patch_k26_e {P : Program} {Q : VEx → Env → List Ob → Prop} {e : Env} {H : List Ob} : vwp P c_ref10_Patch_k26 Q e H = vwp P (.seq (.ops [⟨some 182, .p (.mov (.t 8)), none⟩,
    ⟨some 183, .s (.s2b (.t 182)), none⟩,
    ⟨some 6, .p (.mov (.t 183)), none⟩] [6])
  (.ret)) Q e H := by_refl rfl
theorem u_ref10_Patch_k27_e {P : Program} {Q : VEx → Env → List Ob → Prop} {e : Env} {H : List Ob} : vwp P c_ref10_Patch_k27 Q e H = vwp P (.seq (.block 0 (.loop [2, 7, 8, 9, 10, 11] c_ref10_Patch_L25))
  c_ref10_Patch_k26) Q e H := by_refl rfl
theorem u_ref10_Patch_k28_e {P : Program} {Q : VEx → Env → List Ob → Prop} {e : Env} {H : List Ob} : vwp P c_ref10_Patch_k28 Q e H = vwp P (.seq (.ops [⟨some 11, .p (.mov (.c (.int .i64 ((0 : Nat) : Int)))), none⟩] [2, 7, 8, 9, 10, 11])
  c_ref10_Patch_k27) Q e H := by_refl rfl
theorem u_ref10_Patch_k29_e {P : Program} {Q : VEx → Env → List Ob → Prop} {e : Env} {H : List Ob} : vwp P c_ref10_Patch_k29 Q e H = vwp P (.seq (.ops [⟨some 10, .p (.mov (.c (.int .i64 ((0 : Nat) : Int)))), none⟩] [2, 7, 8, 9, 10])
  c_ref10_Patch_k28) Q e H := by_refl rfl
theorem u_ref10_Patch_k30_e {P : Program} {Q : VEx → Env → List Ob → Prop} {e : Env} {H : List Ob} : vwp P c_ref10_Patch_k30 Q e H = vwp P (.seq (.ops [⟨some 9, .p (.mov (.c (.int .i64 ((0 : Nat) : Int)))), none⟩] [2, 7, 8, 9])
  c_ref10_Patch_k29) Q e H := by_refl rfl
theorem u_ref10_Patch_k31_e {P : Program} {Q : VEx → Env → List Ob → Prop} {e : Env} {H : List Ob} : vwp P c_ref10_Patch_k31 Q e H = vwp P (.seq (.ops [⟨some 8, .p (.mov (.c (.string (str [])))), none⟩] [2, 7, 8])
  c_ref10_Patch_k30) Q e H := by_refl rfl
theorem u_ref10_Patch_k32_e {P : Program} {Q : VEx → Env → List Ob → Prop} {e : Env} {H : List Ob} : vwp P c_ref10_Patch_k32 Q e H = vwp P (.seq (.seq (.ops [⟨some 27, .p (.mov (.t 2)), none⟩,
    ⟨some 28, .p (.bin 3 .gtr (.t 27) (.c (.int .i64 ((1000 : Nat) : Int)))), none⟩] [2, 7, 28])
  (.cond (.t 28)
  (.ops [⟨some 2, .p (.mov (.c (.int .i64 ((1000 : Nat) : Int)))), none⟩] [2, 7])
  (.skip)))
  c_ref10_Patch_k31) Q e H := by_refl rfl
theorem u_ref10_Patch_k33_e {P : Program} {Q : VEx → Env → List Ob → Prop} {e : Env} {H : List Ob} : vwp P c_ref10_Patch_k33 Q e H = vwp P (.seq (.seq (.ops [⟨some 25, .p (.mov (.t 2)), none⟩,
    ⟨some 26, .p (.bin 3 .lss (.t 25) (.c (.int .i64 ((0 : Nat) : Int)))), none⟩] [2, 7, 26])
  (.cond (.t 26)
  (.ops [⟨some 2, .p (.mov (.c (.int .i64 ((0 : Nat) : Int)))), none⟩] [2, 7])
  (.skip)))
  c_ref10_Patch_k32) Q e H := by_refl rfl
theorem u_ref10_Patch_k34_e {P : Program} {Q : VEx → Env → List Ob → Prop} {e : Env} {H : List Ob} : vwp P c_ref10_Patch_k34 Q e H = vwp P (.seq (.ops [⟨some 22, .p (.mov (.t 0)), none⟩,
    ⟨some 23, .p (.mov (.t 1)), none⟩,
    ⟨some 24, .s (.call 60 [.t 22, .t 23]), none⟩,
    ⟨some 7, .p (.mov (.t 24)), none⟩] [2, 7])
  c_ref10_Patch_k33) Q e H := by_refl rfl
theorem u_ref10_Patch_e {P : Program} {Q : VEx → Env → List Ob → Prop} {e : Env} {H : List Ob} : vwp P c_ref10_Patch Q e H = vwp P (.seq (.ops [⟨some 6, .p (.mov (.c (.slice none 0 0))), none⟩] [0, 1, 2])
  c_ref10_Patch_k34) Q e H := by_refl rfl
theorem u_ref10_Patch_r {K : TV → Prop} {e : Env} {H : List Ob} : res r_ref10_Patch e H K = res [.tmp 6] e H K := by_refl rfl
def u_ref10_Patch := (And.intro (And.intro (And.intro (And.intro (And.intro (And.intro @u_ref10_Patch_b1_e @u_ref10_Patch_L2_e) (And.intro @u_ref10_Patch_k3_e @u_ref10_Patch_L4_e)) (And.intro (And.intro @u_ref10_Patch_k5_e @u_ref10_Patch_L6_e) (And.intro @u_ref10_Patch_k7_e @u_ref10_Patch_k8_e))) (And.intro (And.intro (And.intro @u_ref10_Patch_L9_e @u_ref10_Patch_k10_e) (And.intro @u_ref10_Patch_k11_e @u_ref10_Patch_k12_e)) (And.intro (And.intro @u_ref10_Patch_k13_e @u_ref10_Patch_k14_e) (And.intro @u_ref10_Patch_k15_e @u_ref10_Patch_k16_e)))) (And.intro (And.intro (And.intro (And.intro @u_ref10_Patch_k17_e @u_ref10_Patch_k18_e) (And.intro @u_ref10_Patch_k19_e @u_ref10_Patch_k20_e)) (And.intro (And.intro @u_ref10_Patch_k21_e @u_ref10_Patch_k22_e) (And.intro @u_ref10_Patch_k23_e @u_ref10_Patch_k24_e))) (And.intro (And.intro (And.intro @u_ref10_Patch_L25_e @u_ref10_Patch_k26_e) (And.intro @u_ref10_Patch_k27_e @u_ref10_Patch_k28_e)) (And.intro (And.intro @u_ref10_Patch_k29_e @u_ref10_Patch_k30_e) (And.intro @u_ref10_Patch_k31_e @u_ref10_Patch_k32_e))))) (And.intro (And.intro @u_ref10_Patch_k33_e @u_ref10_Patch_k34_e) (And.intro @u_ref10_Patch_e @u_ref10_Patch_r)))
theorem go_ref10_Patch {args : List TV} {H : List Ob} {R : TV → List Ob → Prop} (hn : args.length ≤ 184) (h : vwp Tryd.prog c_ref10_Patch (atEnd r_ref10_Patch R) (argsE 0 args) H) : VCalls Tryd.prog 20 args H R := vcalls_of Tryd.func20 t_ref10_Patch w_ref10_Patch hn h

/-! gitlike/gitlikeref10.line -/
def c_ref10_line_k1 : VCode := .seq (.seq (.ops [⟨some 19, .p (.fieldA 1 1 (.t 1)), none⟩,
    ⟨some 20, .p (.load false 1 (.t 19)), none⟩,
    ⟨some 21, .p (.fieldA 1 1 (.t 1)), none⟩,
    ⟨some 22, .p (.load false 1 (.t 21)), none⟩,
    ⟨some 23, .p (.lenS (.t 22)), none⟩,
    ⟨some 24, .p (.bin 3 .sub (.t 23) (.c (.int .i64 ((1 : Nat) : Int)))), none⟩,
    ⟨some 25, .p (.idxS (.t 20) (.t 24)), none⟩,
    ⟨some 26, .p (.bin 5 .neq (.t 25) (.c (.int .u8 ((10 : Nat) : Int)))), none⟩] [3, 26])
  (.cond (.t 26)
  (.ops [⟨some 27, .p (.mov (.t 3)), none⟩,
      ⟨some 28, .p (.bin 9 .add (.t 27) (.c (.string (str [10, 92, 32, 78, 111, 32, 110, 101, 119, 108, 105, 110, 101, 32, 97, 116, 32, 101, 110, 100, 32, 111, 102, 32, 102, 105, 108, 101, 10])))), none⟩,
      ⟨some 3, .p (.mov (.t 28)), none⟩] [3])
  (.skip)))
  (.seq (.ops [⟨some 29, .p (.mov (.t 3)), none⟩,
    ⟨some 2, .p (.mov (.t 29)), none⟩] [2])
  (.ret))
def c_ref10_line_k2 : VCode := .seq (.seq (.ops [⟨some 13, .p (.fieldA 0 0 (.t 1)), none⟩,
    ⟨some 14, .p (.load false 1 (.t 13)), none⟩,
    ⟨some 15, .p (.bin 3 .eql (.t 14) (.c (.int .i64 ((2 : Nat) : Int)))), none⟩] [1, 3, 15])
  (.cond (.t 15)
  (.ops [⟨some 16, .p (.fieldA 1 1 (.t 1)), none⟩,
      ⟨some 17, .p (.load false 1 (.t 16)), none⟩,
      ⟨some 18, .p (.bin 9 .add (.c (.string (str [43]))) (.t 17)), none⟩,
      ⟨some 3, .p (.mov (.t 18)), none⟩] [1, 3])
  (.skip)))
  c_ref10_line_k1
def c_ref10_line_k3 : VCode := .seq (.seq (.ops [⟨some 7, .p (.fieldA 0 0 (.t 1)), none⟩,
    ⟨some 8, .p (.load false 1 (.t 7)), none⟩,
    ⟨some 9, .p (.bin 3 .eql (.t 8) (.c (.int .i64 ((1 : Nat) : Int)))), none⟩] [1, 3, 9])
  (.cond (.t 9)
  (.ops [⟨some 10, .p (.fieldA 1 1 (.t 1)), none⟩,
      ⟨some 11, .p (.load false 1 (.t 10)), none⟩,
      ⟨some 12, .p (.bin 9 .add (.c (.string (str [45]))) (.t 11)), none⟩,
      ⟨some 3, .p (.mov (.t 12)), none⟩] [1, 3])
  (.skip)))
  c_ref10_line_k2
def c_ref10_line_k4 : VCode := .seq (.ops [⟨some 4, .p (.fieldA 1 1 (.t 1)), none⟩,
    ⟨some 5, .p (.load false 1 (.t 4)), none⟩,
    ⟨some 6, .p (.bin 9 .add (.c (.string (str [32]))) (.t 5)), none⟩,
    ⟨some 3, .p (.mov (.t 6)), none⟩] [1, 3])
  c_ref10_line_k3
def c_ref10_line : VCode := .seq (.ops [⟨some 1, .s (.box (.t 0)), none⟩,
    ⟨some 2, .p (.mov (.c (.string (str [])))), none⟩] [1])
  c_ref10_line_k4
def r_ref10_line : List VR := [.tmp 2]
theorem t_ref10_line : Tryd.f61.body.bind (trC Tryd.prog Tryd.f61.ntmps) = some (er c_ref10_line) := by kernel_rfl
theorem w_ref10_line : trR Tryd.prog Tryd.f61.results.toList = some r_ref10_line := by kernel_rfl
theorem u_ref10_line_k1_e {P : Program} {Q : VEx → Env → List Ob → Prop} {e : Env} {H : List Ob} : vwp P c_ref10_line_k1 Q e H = vwp P (.seq (.seq (.ops [⟨some 19, .p (.fieldA 1 1 (.t 1)), none⟩,
    ⟨some 20, .p (.load false 1 (.t 19)), none⟩,
    ⟨some 21, .p (.fieldA 1 1 (.t 1)), none⟩,
    ⟨some 22, .p (.load false 1 (.t 21)), none⟩,
    ⟨some 23, .p (.lenS (.t 22)), none⟩,
    ⟨some 24, .p (.bin 3 .sub (.t 23) (.c (.int .i64 ((1 : Nat) : Int)))), none⟩,
    ⟨some 25, .p (.idxS (.t 20) (.t 24)), none⟩,
    ⟨some 26, .p (.bin 5 .neq (.t 25) (.c (.int .u8 ((10 : Nat) : Int)))), none⟩] [3, 26])
  (.cond (.t 26)
  (.ops [⟨some 27, .p (.mov (.t 3)), none⟩,
      ⟨some 28, .p (.bin 9 .add (.t 27) (.c (.string (str [10, 92, 32, 78, 111, 32, 110, 101, 119, 108, 105, 110, 101, 32, 97, 116, 32, 101, 110, 100, 32, 111, 102, 32, 102, 105, 108, 101, 10])))), none⟩,
      ⟨some 3, .p (.mov (.t 28)), none⟩] [3])
  (.skip)))
  (.seq (.ops [⟨some 29, .p (.mov (.t 3)), none⟩,
    ⟨some 2, .p (.mov (.t 29)), none⟩] [2])
  (.ret))) Q e H := by_refl rfl
theorem u_ref10_line_k2_e {P : Program} {Q : VEx → Env → List Ob → Prop} {e : Env} {H : List Ob} : vwp P c_ref10_line_k2 Q e H = vwp P (.seq (.seq (.ops [⟨some 13, .p (.fieldA 0 0 (.t 1)), none⟩,
    ⟨some 14, .p (.load false 1 (.t 13)), none⟩,
    ⟨some 15, .p (.bin 3 .eql (.t 14) (.c (.int .i64 ((2 : Nat) : Int)))), none⟩] [1, 3, 15])
  (.cond (.t 15)
  (.ops [⟨some 16, .p (.fieldA 1 1 (.t 1)), none⟩,
      ⟨some 17, .p (.load false 1 (.t 16)), none⟩,
      ⟨some 18, .p (.bin 9 .add (.c (.string (str [43]))) (.t 17)), none⟩,
      ⟨some 3, .p (.mov (.t 18)), none⟩] [1, 3])
  (.skip)))
  c_ref10_line_k1) Q e H := by_refl rfl
theorem u_ref10_line_k3_e {P : Program} {Q : VEx → Env → List Ob → Prop} {e : Env} {H : List Ob} : vwp P c_ref10_line_k3 Q e H = vwp P (.seq (.seq (.ops [⟨some 7, .p (.fieldA 0 0 (.t 1)), none⟩,
    ⟨some 8, .p (.load false 1 (.t 7)), none⟩,
    ⟨some 9, .p (.bin 3 .eql (.t 8) (.c (.int .i64 ((1 : Nat) : Int)))), none⟩] [1, 3, 9])
  (.cond (.t 9)
  (.ops [⟨some 10, .p (.fieldA 1 1 (.t 1)), none⟩,
      ⟨some 11, .p (.load false 1 (.t 10)), none⟩,
      ⟨some 12, .p (.bin 9 .add (.c (.string (str [45]))) (.t 11)), none⟩,
      ⟨some 3, .p (.mov (.t 12)), none⟩] [1, 3])
  (.skip)))
  c_ref10_line_k2) Q e H := by_refl rfl
theorem u_ref10_line_k4_e {P : Program} {Q : VEx → Env → List Ob → Prop} {e : Env} {H : List Ob} : vwp P c_ref10_line_k4 Q e H = vwp P (.seq (.ops [⟨some 4, .p (.fieldA 1 1 (.t 1)), none⟩,
    ⟨some 5, .p (.load false 1 (.t 4)), none⟩,
    ⟨some 6, .p (.bin 9 .add (.c (.string (str [32]))) (.t 5)), none⟩,
    ⟨some 3, .p (.mov (.t 6)), none⟩] [1, 3])
  c_ref10_line_k3) Q e H := by_refl rfl
theorem u_ref10_line_e {P : Program} {Q : VEx → Env → List Ob → Prop} {e : Env} {H : List Ob} : vwp P c_ref10_line Q e H = vwp P (.seq (.ops [⟨some 1, .s (.box (.t 0)), none⟩,
    ⟨some 2, .p (.mov (.c (.string (str [])))), none⟩] [1])
  c_ref10_line_k4) Q e H := by_refl rfl
theorem u_ref10_line_r {K : TV → Prop} {e : Env} {H : List Ob} : res r_ref10_line e H K = res [.tmp 2] e H K := by_refl rfl
def u_ref10_line := (And.intro (And.intro (And.intro @u_ref10_line_k1_e @u_ref10_line_k2_e) (And.intro @u_ref10_line_k3_e @u_ref10_line_k4_e)) (And.intro @u_ref10_line_e @u_ref10_line_r))
theorem go_ref10_line {args : List TV} {H : List Ob} {R : TV → List Ob → Prop} (hn : args.length ≤ 30) (h : vwp Tryd.prog c_ref10_line (atEnd r_ref10_line R) (argsE 0 args) H) : VCalls Tryd.prog 61 args H R := vcalls_of Tryd.func61 t_ref10_line w_ref10_line hn h

/-! gitlike/gitlikeref10.numbers -/
def c_ref10_numbers : VCode := .seq (.ops [⟨some 4, .p (.mov (.c (.string (str [])))), none⟩] [0, 1])
  (.seq (.seq (.ops [⟨some 5, .p (.mov (.t 1)), none⟩,
    ⟨some 6, .p (.bin 3 .gtr (.t 5) (.c (.int .i64 ((0 : Nat) : Int)))), none⟩] [0, 1, 6])
  (.cond (.t 6)
  (.ops [⟨some 7, .p (.mov (.t 0)), none⟩,
      ⟨some 8, .p (.bin 3 .add (.t 7) (.c (.int .i64 ((1 : Nat) : Int)))), none⟩,
      ⟨some 0, .p (.mov (.t 8)), none⟩] [0, 1])
  (.skip)))
  (.seq (.ops [⟨some 9, .p (.mov (.t 0)), none⟩,
    ⟨some 10, .s (.call 119 [.t 9]), none⟩,
    ⟨some 11, .p (.bin 9 .add (.t 10) (.c (.string (str [44])))), none⟩,
    ⟨some 12, .p (.mov (.t 1)), none⟩,
    ⟨some 13, .s (.call 119 [.t 12]), none⟩,
    ⟨some 14, .p (.bin 9 .add (.t 11) (.t 13)), none⟩,
    ⟨some 4, .p (.mov (.t 14)), none⟩] [4])
  (.ret)))
def r_ref10_numbers : List VR := [.tmp 4]
theorem t_ref10_numbers : Tryd.f62.body.bind (trC Tryd.prog Tryd.f62.ntmps) = some (er c_ref10_numbers) := by kernel_rfl
theorem w_ref10_numbers : trR Tryd.prog Tryd.f62.results.toList = some r_ref10_numbers := by kernel_rfl
theorem u_ref10_numbers_e {P : Program} {Q : VEx → Env → List Ob → Prop} {e : Env} {H : List Ob} : vwp P c_ref10_numbers Q e H = vwp P (.seq (.ops [⟨some 4, .p (.mov (.c (.string (str [])))), none⟩] [0, 1])
  (.seq (.seq (.ops [⟨some 5, .p (.mov (.t 1)), none⟩,
    ⟨some 6, .p (.bin 3 .gtr (.t 5) (.c (.int .i64 ((0 : Nat) : Int)))), none⟩] [0, 1, 6])
  (.cond (.t 6)
  (.ops [⟨some 7, .p (.mov (.t 0)), none⟩,
      ⟨some 8, .p (.bin 3 .add (.t 7) (.c (.int .i64 ((1 : Nat) : Int)))), none⟩,
      ⟨some 0, .p (.mov (.t 8)), none⟩] [0, 1])
  (.skip)))
  (.seq (.ops [⟨some 9, .p (.mov (.t 0)), none⟩,
    ⟨some 10, .s (.call 119 [.t 9]), none⟩,
    ⟨some 11, .p (.bin 9 .add (.t 10) (.c (.string (str [44])))), none⟩,
    ⟨some 12, .p (.mov (.t 1)), none⟩,
    ⟨some 13, .s (.call 119 [.t 12]), none⟩,
    ⟨some 14, .p (.bin 9 .add (.t 11) (.t 13)), none⟩,
    ⟨some 4, .p (.mov (.t 14)), none⟩] [4])
  (.ret)))) Q e H := by_refl rfl
theorem u_ref10_numbers_r {K : TV → Prop} {e : Env} {H : List Ob} : res r_ref10_numbers e H K = res [.tmp 4] e H K := by_refl rfl
def u_ref10_numbers := (And.intro @u_ref10_numbers_e @u_ref10_numbers_r)
theorem go_ref10_numbers {args : List TV} {H : List Ob} {R : TV → List Ob → Prop} (hn : args.length ≤ 15) (h : vwp Tryd.prog c_ref10_numbers (atEnd r_ref10_numbers R) (argsE 0 args) H) : VCalls Tryd.prog 62 args H R := vcalls_of Tryd.func62 t_ref10_numbers w_ref10_numbers hn h

/-! gitlike/gitlikeref3.Decimal -/
def c_ref3_Decimal_L1 : VCode := .seq (.seq (.ops [⟨some 6, .p (.mov (.t 0)), none⟩,
    ⟨some 7, .p (.bin 3 .gtr (.t 6) (.c (.int .i64 ((0 : Nat) : Int)))), none⟩] [0, 3, 7])
  (.cond (.t 7)
  (.skip)
  (.exit 0)))
  (.block 1 (.seq (.ops [⟨some 8, .p (.mov (.t 0)), none⟩,
    ⟨some 9, .p (.bin 3 .rem (.t 8) (.c (.int .i64 ((10 : Nat) : Int)))), none⟩,
    ⟨some 10, .p (.bin 3 .add (.c (.int .i64 ((48 : Nat) : Int))) (.t 9)), none⟩,
    ⟨some 11, .p (.conv .u8 (.t 10)), none⟩,
    ⟨some 12, .s (.bslice 1 1 (.val (.int .u8 ((0 : Nat) : Int))) [⟨0, .t 11⟩]), none⟩,
    ⟨some 13, .p (.b2s (.t 12)), none⟩,
    ⟨some 14, .p (.mov (.t 3)), none⟩,
    ⟨some 15, .p (.bin 9 .add (.t 13) (.t 14)), none⟩,
    ⟨some 3, .p (.mov (.t 15)), none⟩] [0, 3])
  (.ops [⟨some 16, .p (.mov (.t 0)), none⟩,
    ⟨some 17, .p (.bin 3 .quo (.t 16) (.c (.int .i64 ((10 : Nat) : Int)))), none⟩,
    ⟨some 0, .p (.mov (.t 17)), none⟩] [0, 3])))
def c_ref3_Decimal_k2 : VCode := .seq (.ops [⟨some 18, .p (.mov (.t 3)), none⟩,
    ⟨some 2, .p (.mov (.t 18)), none⟩] [2])
  (.ret)
def c_ref3_Decimal_k3 : VCode := .seq (.block 0 (.loop [0, 3] c_ref3_Decimal_L1))
  c_ref3_Decimal_k2
def c_ref3_Decimal_k4 : VCode := .seq (.ops [⟨some 3, .p (.mov (.c (.string (str [])))), none⟩] [0, 3])
  c_ref3_Decimal_k3
def c_ref3_Decimal_k5 : VCode := .seq (.seq (.ops [⟨some 4, .p (.mov (.t 0)), none⟩,
    ⟨some 5, .p (.bin 3 .eql (.t 4) (.c (.int .i64 ((0 : Nat) : Int)))), none⟩] [0, 5])
  (.cond (.t 5)
  (.seq (.ops [⟨some 2, .p (.mov (.c (.string (str [48])))), none⟩] [2])
    (.ret))
  (.skip)))
  c_ref3_Decimal_k4
def c_ref3_Decimal : VCode := .seq (.ops [⟨some 2, .p (.mov (.c (.string (str [])))), none⟩] [0])
  c_ref3_Decimal_k5
def r_ref3_Decimal : List VR := [.tmp 2]
theorem t_ref3_Decimal : Tryd.f119.body.bind (trC Tryd.prog Tryd.f119.ntmps) = some (er c_ref3_Decimal) := by kernel_rfl
theorem w_ref3_Decimal : trR Tryd.prog Tryd.f119.results.toList = some r_ref3_Decimal := by kernel_rfl
theorem u_ref3_Decimal_L1_e {P : Program} {Q : VEx → Env → List Ob → Prop} {e : Env} {H : List Ob} : vwp P c_ref3_Decimal_L1 Q e H = vwp P (.seq (.seq (.ops [⟨some 6, .p (.mov (.t 0)), none⟩,
    ⟨some 7, .p (.bin 3 .gtr (.t 6) (.c (.int .i64 ((0 : Nat) : Int)))), none⟩] [0, 3, 7])
  (.cond (.t 7)
  (.skip)
  (.exit 0)))
  (.block 1 (.seq (.ops [⟨some 8, .p (.mov (.t 0)), none⟩,
    ⟨some 9, .p (.bin 3 .rem (.t 8) (.c (.int .i64 ((10 : Nat) : Int)))), none⟩,
    ⟨some 10, .p (.bin 3 .add (.c (.int .i64 ((48 : Nat) : Int))) (.t 9)), none⟩,
    ⟨some 11, .p (.conv .u8 (.t 10)), none⟩,
    ⟨some 12, .s (.bslice 1 1 (.val (.int .u8 ((0 : Nat) : Int))) [⟨0, .t 11⟩]), none⟩,
    ⟨some 13, .p (.b2s (.t 12)), none⟩,
    ⟨some 14, .p (.mov (.t 3)), none⟩,
    ⟨some 15, .p (.bin 9 .add (.t 13) (.t 14)), none⟩,
    ⟨some 3, .p (.mov (.t 15)), none⟩] [0, 3])
  (.ops [⟨some 16, .p (.mov (.t 0)), none⟩,
    ⟨some 17, .p (.bin 3 .quo (.t 16) (.c (.int .i64 ((10 : Nat) : Int)))), none⟩,
    ⟨some 0, .p (.mov (.t 17)), none⟩] [0, 3])))) Q e H := by_refl rfl
theorem u_ref3_Decimal_k2_e {P : Program} {Q : VEx → Env → List Ob → Prop} {e : Env} {H : List Ob} : vwp P c_ref3_Decimal_k2 Q e H = vwp P (.seq (.ops [⟨some 18, .p (.mov (.t 3)), none⟩,
    ⟨some 2, .p (.mov (.t 18)), none⟩] [2])
  (.ret)) Q e H := by_refl rfl
theorem u_ref3_Decimal_k3_e {P : Program} {Q : VEx → Env → List Ob → Prop} {e : Env} {H : List Ob} : vwp P c_ref3_Decimal_k3 Q e H = vwp P (.seq (.block 0 (.loop [0, 3] c_ref3_Decimal_L1))
  c_ref3_Decimal_k2) Q e H := by_refl rfl
theorem u_ref3_Decimal_k4_e {P : Program} {Q : VEx → Env → List Ob → Prop} {e : Env} {H : List Ob} : vwp P c_ref3_Decimal_k4 Q e H = vwp P (.seq (.ops [⟨some 3, .p (.mov (.c (.string (str [])))), none⟩] [0, 3])
  c_ref3_Decimal_k3) Q e H := by_refl rfl
theorem u_ref3_Decimal_k5_e {P : Program} {Q : VEx → Env → List Ob → Prop} {e : Env} {H : List Ob} : vwp P c_ref3_Decimal_k5 Q e H = vwp P (.seq (.seq (.ops [⟨some 4, .p (.mov (.t 0)), none⟩,
    ⟨some 5, .p (.bin 3 .eql (.t 4) (.c (.int .i64 ((0 : Nat) : Int)))), none⟩] [0, 5])
  (.cond (.t 5)
  (.seq (.ops [⟨some 2, .p (.mov (.c (.string (str [48])))), none⟩] [2])
    (.ret))
  (.skip)))
  c_ref3_Decimal_k4) Q e H := by_refl rfl
theorem u_ref3_Decimal_e {P : Program} {Q : VEx → Env → List Ob → Prop} {e : Env} {H : List Ob} : vwp P c_ref3_Decimal Q e H = vwp P (.seq (.ops [⟨some 2, .p (.mov (.c (.string (str [])))), none⟩] [0])
  c_ref3_Decimal_k5) Q e H := by_refl rfl
theorem u_ref3_Decimal_r {K : TV → Prop} {e : Env} {H : List Ob} : res r_ref3_Decimal e H K = res [.tmp 2] e H K := by_refl rfl
def u_ref3_Decimal := (And.intro (And.intro (And.intro @u_ref3_Decimal_L1_e @u_ref3_Decimal_k2_e) (And.intro @u_ref3_Decimal_k3_e @u_ref3_Decimal_k4_e)) (And.intro (And.intro @u_ref3_Decimal_k5_e @u_ref3_Decimal_e) @u_ref3_Decimal_r))
theorem go_ref3_Decimal {args : List TV} {H : List Ob} {R : TV → List Ob → Prop} (hn : args.length ≤ 19) (h : vwp Tryd.prog c_ref3_Decimal (atEnd r_ref3_Decimal R) (argsE 0 args) H) : VCalls Tryd.prog 119 args H R := vcalls_of Tryd.func119 t_ref3_Decimal w_ref3_Decimal hn h

/-! gitlike/gitlikelaw10.DiffPatches -/
def c_law10_DiffPatches_k1 : VCode := .seq (.ops [⟨some 17, .p (.mov (.t 0)), none⟩,
    ⟨some 18, .p (.mov (.t 1)), none⟩,
    ⟨some 19, .p (.mov (.t 2)), none⟩,
    ⟨some 20, .s (.call 19 [.t 17, .t 18, .t 19]), none⟩,
    ⟨some 7, .p (.mov (.t 20)), none⟩] [0, 1, 2, 7])
  (.seq (.ops [⟨some 21, .p (.mov (.t 0)), none⟩,
    ⟨some 22, .p (.mov (.t 1)), none⟩,
    ⟨some 23, .p (.mov (.t 2)), none⟩,
    ⟨some 24, .s (.call 20 [.t 21, .t 22, .t 23]), none⟩,
    ⟨some 8, .p (.mov (.t 24)), none⟩] [7, 8])
  (.seq (.ops [⟨some 25, .p (.mov (.t 7)), none⟩,
    ⟨some 26, .p (.mov (.t 8)), none⟩,
    ⟨some 27, .s (.call 21 [.t 25, .t 26]), none⟩,
    ⟨some 6, .p (.mov (.t 27)), none⟩] [6])
  (.ret)))
def c_law10_DiffPatches_k2 : VCode := .seq (.seq (.ops [⟨some 9, .p (.mov (.t 0)), none⟩,
    ⟨some 10, .p (.lenV (.t 9)), none⟩,
    ⟨some 11, .p (.bin 3 .gtr (.t 10) (.c (.int .i64 ((4000 : Nat) : Int)))), none⟩,
    ⟨some 12, .p (.mov (.t 11)), none⟩,
    ⟨some 13, .p (.mov (.t 1)), some ⟨12, false⟩⟩,
    ⟨some 14, .p (.lenV (.t 13)), some ⟨12, false⟩⟩,
    ⟨some 15, .p (.bin 3 .gtr (.t 14) (.c (.int .i64 ((4000 : Nat) : Int)))), some ⟨12, false⟩⟩,
    ⟨some 16, .p (.pick (.t 12) (.c (.bool true)) (.t 15)), none⟩] [0, 1, 2, 16])
  (.cond (.t 16)
  (.seq (.ops [⟨some 6, .p (.mov (.c (.bool true))), none⟩] [6])
    (.ret))
  (.skip)))
  c_law10_DiffPatches_k1
def c_law10_DiffPatches : VCode := .seq (.ops [⟨some 6, .p (.mov (.c (.bool false))), none⟩] [0, 1, 2])
  c_law10_DiffPatches_k2
def r_law10_DiffPatches : List VR := [.tmp 6]
theorem t_law10_DiffPatches : Tryd.f5.body.bind (trC Tryd.prog Tryd.f5.ntmps) = some (er c_law10_DiffPatches) := by kernel_rfl
theorem w_law10_DiffPatches : trR Tryd.prog Tryd.f5.results.toList = some r_law10_DiffPatches := by kernel_rfl
theorem u_law10_DiffPatches_k1_e {P : Program} {Q : VEx → Env → List Ob → Prop} {e : Env} {H : List Ob} : vwp P c_law10_DiffPatches_k1 Q e H = vwp P (.seq (.ops [⟨some 17, .p (.mov (.t 0)), none⟩,
    ⟨some 18, .p (.mov (.t 1)), none⟩,
    ⟨some 19, .p (.mov (.t 2)), none⟩,
    ⟨some 20, .s (.call 19 [.t 17, .t 18, .t 19]), none⟩,
    ⟨some 7, .p (.mov (.t 20)), none⟩] [0, 1, 2, 7])
  (.seq (.ops [⟨some 21, .p (.mov (.t 0)), none⟩,
    ⟨some 22, .p (.mov (.t 1)), none⟩,
    ⟨some 23, .p (.mov (.t 2)), none⟩,
    ⟨some 24, .s (.call 20 [.t 21, .t 22, .t 23]), none⟩,
    ⟨some 8, .p (.mov (.t 24)), none⟩] [7, 8])
  (.seq (.ops [⟨some 25, .p (.mov (.t 7)), none⟩,
    ⟨some 26, .p (.mov (.t 8)), none⟩,
    ⟨some 27, .s (.call 21 [.t 25, .t 26]), none⟩,
    ⟨some 6, .p (.mov (.t 27)), none⟩] [6])
  (.ret)))) Q e H := by_refl rfl
theorem u_law10_DiffPatches_k2_e {P : Program} {Q : VEx → Env → List Ob → Prop} {e : Env} {H : List Ob} : vwp P c_law10_DiffPatches_k2 Q e H = vwp P (.seq (.seq (.ops [⟨some 9, .p (.mov (.t 0)), none⟩,
    ⟨some 10, .p (.lenV (.t 9)), none⟩,
    ⟨some 11, .p (.bin 3 .gtr (.t 10) (.c (.int .i64 ((4000 : Nat) : Int)))), none⟩,
    ⟨some 12, .p (.mov (.t 11)), none⟩,
    ⟨some 13, .p (.mov (.t 1)), some ⟨12, false⟩⟩,
    ⟨some 14, .p (.lenV (.t 13)), some ⟨12, false⟩⟩,
    ⟨some 15, .p (.bin 3 .gtr (.t 14) (.c (.int .i64 ((4000 : Nat) : Int)))), some ⟨12, false⟩⟩,
    ⟨some 16, .p (.pick (.t 12) (.c (.bool true)) (.t 15)), none⟩] [0, 1, 2, 16])
  (.cond (.t 16)
  (.seq (.ops [⟨some 6, .p (.mov (.c (.bool true))), none⟩] [6])
    (.ret))
  (.skip)))
  c_law10_DiffPatches_k1) Q e H := by_refl rfl
theorem u_law10_DiffPatches_e {P : Program} {Q : VEx → Env → List Ob → Prop} {e : Env} {H : List Ob} : vwp P c_law10_DiffPatches Q e H = vwp P (.seq (.ops [⟨some 6, .p (.mov (.c (.bool false))), none⟩] [0, 1, 2])
  c_law10_DiffPatches_k2) Q e H := by_refl rfl
theorem u_law10_DiffPatches_r {K : TV → Prop} {e : Env} {H : List Ob} : res r_law10_DiffPatches e H K = res [.tmp 6] e H K := by_refl rfl
def u_law10_DiffPatches := (And.intro (And.intro @u_law10_DiffPatches_k1_e @u_law10_DiffPatches_k2_e) (And.intro @u_law10_DiffPatches_e @u_law10_DiffPatches_r))
theorem go_law10_DiffPatches {args : List TV} {H : List Ob} {R : TV → List Ob → Prop} (hn : args.length ≤ 28) (h : vwp Tryd.prog c_law10_DiffPatches (atEnd r_law10_DiffPatches R) (argsE 0 args) H) : VCalls Tryd.prog 5 args H R := vcalls_of Tryd.func5 t_law10_DiffPatches w_law10_DiffPatches hn h

end Go.Proofs.YtijidndhlgbjhaaDoor
