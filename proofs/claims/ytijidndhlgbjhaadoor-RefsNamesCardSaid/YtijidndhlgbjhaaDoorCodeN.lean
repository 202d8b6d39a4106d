/- The code of some functions, as the machine of values has it: printed by vm.py out of the program; each is the program's own (t_..: by the kernel). -/
import Derived.Test.YtijidndhlgbjhaaDoorBaseC
import Derived.Test.YtijidndhlgbjhaaDoorProg
import Derived.KernelRfl
namespace Go.Proofs.YtijidndhlgbjhaaDoor
variable [Globs]
set_option linter.unusedSectionVars false
set_option linter.unusedVariables false
set_option linter.defProp false
set_option maxRecDepth 100000

/-! gitlike/refs.IsName -/
def c_refs_IsName_A1 : VCode := .ops [⟨some 3, .p (.mov (.t 30)), none⟩] [2, 3]
def c_refs_IsName_F2 : VCode := .block 1 (.seq (.ops [⟨some 31, .p (.mov (.t 3)), none⟩,
    ⟨some 32, .p (.bin 9 .eql (.t 31) (.c (.string (str [])))), none⟩,
    ⟨some 33, .p (.mov (.t 32)), none⟩,
    ⟨some 34, .p (.mov (.t 3)), some ⟨33, false⟩⟩,
    ⟨some 35, .p (.idxS (.t 34) (.c (.int .i64 ((0 : Nat) : Int)))), some ⟨33, false⟩⟩,
    ⟨some 36, .p (.bin 5 .eql (.t 35) (.c (.int .u8 ((46 : Nat) : Int)))), some ⟨33, false⟩⟩,
    ⟨some 37, .p (.pick (.t 33) (.c (.bool true)) (.t 36)), none⟩,
    ⟨some 38, .p (.mov (.t 37)), none⟩,
    ⟨some 39, .p (.mov (.t 3)), some ⟨38, false⟩⟩,
    ⟨some 40, .s (.call 48 [.t 39, .c (.string (str [46, 108, 111, 99, 107]))]), some ⟨38, false⟩⟩,
    ⟨some 41, .p (.pick (.t 38) (.c (.bool true)) (.t 40)), none⟩] [2, 41])
  (.cond (.t 41)
  (.seq (.ops [⟨none, .s (.store 1 (.t 2) (.c (.bool false))), none⟩] [])
    (.ret))
  (.skip)))
def c_refs_IsName_k3 : VCode := .block 0 (.rfunc (.t 29) [30] c_refs_IsName_A1 c_refs_IsName_F2)
def c_refs_IsName_k4 : VCode := .seq (.ops [⟨none, .s (.store 1 (.t 2) (.c (.bool true))), none⟩] [2])
  (.ret)
def c_refs_IsName_k5 : VCode := .seq (.seq (.ops [⟨some 28, .p (.mov (.t 0)), none⟩,
    ⟨some 29, .s (.call 53 [.t 28, .c (.string (str [47]))]), none⟩] [2, 29])
  c_refs_IsName_k3)
  c_refs_IsName_k4
def c_refs_IsName_k6 : VCode := .seq (.seq (.ops [⟨some 26, .p (.mov (.t 0)), none⟩,
    ⟨some 27, .s (.call 50 [.t 26, .c (.func (.func 51) #[] #[])]), none⟩] [0, 2, 27])
  (.cond (.t 27)
  (.seq (.ops [⟨none, .s (.store 1 (.t 2) (.c (.bool false))), none⟩] [2])
    (.ret))
  (.skip)))
  c_refs_IsName_k5
def c_refs_IsName_k7 : VCode := .seq (.seq (.ops [⟨some 6, .p (.mov (.t 0)), none⟩,
    ⟨some 7, .p (.lenS (.t 6)), none⟩,
    ⟨some 8, .p (.bin 3 .gtr (.t 7) (.c (.int .i64 ((60 : Nat) : Int)))), none⟩,
    ⟨some 9, .p (.mov (.t 8)), none⟩,
    ⟨some 10, .p (.mov (.t 0)), some ⟨9, false⟩⟩,
    ⟨some 11, .s (.call 47 [.t 10, .c (.string (str [114, 101, 102, 115, 47]))]), some ⟨9, false⟩⟩,
    ⟨some 12, .p (.un .not (.t 11)), some ⟨9, false⟩⟩,
    ⟨some 13, .p (.pick (.t 9) (.c (.bool true)) (.t 12)), none⟩,
    ⟨some 14, .p (.mov (.t 13)), none⟩,
    ⟨some 15, .p (.mov (.t 0)), some ⟨14, false⟩⟩,
    ⟨some 16, .s (.call 48 [.t 15, .c (.string (str [46]))]), some ⟨14, false⟩⟩,
    ⟨some 17, .p (.pick (.t 14) (.c (.bool true)) (.t 16)), none⟩,
    ⟨some 18, .p (.mov (.t 17)), none⟩,
    ⟨some 19, .p (.mov (.t 0)), some ⟨18, false⟩⟩,
    ⟨some 20, .s (.call 49 [.t 19, .c (.string (str [46, 46]))]), some ⟨18, false⟩⟩,
    ⟨some 21, .p (.pick (.t 18) (.c (.bool true)) (.t 20)), none⟩,
    ⟨some 22, .p (.mov (.t 21)), none⟩,
    ⟨some 23, .p (.mov (.t 0)), some ⟨22, false⟩⟩,
    ⟨some 24, .s (.call 49 [.t 23, .c (.string (str [64, 123]))]), some ⟨22, false⟩⟩,
    ⟨some 25, .p (.pick (.t 22) (.c (.bool true)) (.t 24)), none⟩] [0, 2, 25])
  (.cond (.t 25)
  (.seq (.ops [⟨none, .s (.store 1 (.t 2) (.c (.bool false))), none⟩] [2])
    (.ret))
  (.skip)))
  c_refs_IsName_k6
def c_refs_IsName_k8 : VCode := .seq (.seq (.ops [⟨some 4, .p (.mov (.t 0)), none⟩,
    ⟨some 5, .p (.bin 9 .eql (.t 4) (.c (.string (str [72, 69, 65, 68])))), none⟩] [0, 2, 5])
  (.cond (.t 5)
  (.seq (.ops [⟨none, .s (.store 1 (.t 2) (.c (.bool true))), none⟩] [2])
    (.ret))
  (.skip)))
  c_refs_IsName_k7
def c_refs_IsName : VCode := .seq (.ops [⟨some 2, .s (.alloc (.val (.bool false))), none⟩] [0, 2])
  c_refs_IsName_k8
def r_refs_IsName : List VR := [.cell 2 false 1]
theorem t_refs_IsName : Tryd.f15.body.bind (trC Tryd.prog Tryd.f15.ntmps) = some (er c_refs_IsName) := by kernel_rfl
theorem w_refs_IsName : trR Tryd.prog Tryd.f15.results.toList = some r_refs_IsName := by kernel_rfl
theorem u_refs_IsName_A1_e {P : Program} {Q : VEx → Env → List Ob → Prop} {e : Env} {H : List Ob} : vwp P c_refs_IsName_A1 Q e H = vwp P (.ops [⟨some 3, .p (.mov (.t 30)), none⟩] [2, 3]) Q e H := by_refl rfl
theorem u_refs_IsName_F2_e {P : Program} {Q : VEx → Env → List Ob → Prop} {e : Env} {H : List Ob} : vwp P c_refs_IsName_F2 Q e H = vwp P (.block 1 (.seq (.ops [⟨some 31, .p (.mov (.t 3)), none⟩,
    ⟨some 32, .p (.bin 9 .eql (.t 31) (.c (.string (str [])))), none⟩,
    ⟨some 33, .p (.mov (.t 32)), none⟩,
    ⟨some 34, .p (.mov (.t 3)), some ⟨33, false⟩⟩,
    ⟨some 35, .p (.idxS (.t 34) (.c (.int .i64 ((0 : Nat) : Int)))), some ⟨33, false⟩⟩,
    ⟨some 36, .p (.bin 5 .eql (.t 35) (.c (.int .u8 ((46 : Nat) : Int)))), some ⟨33, false⟩⟩,
    ⟨some 37, .p (.pick (.t 33) (.c (.bool true)) (.t 36)), none⟩,
    ⟨some 38, .p (.mov (.t 37)), none⟩,
    ⟨some 39, .p (.mov (.t 3)), some ⟨38, false⟩⟩,
    ⟨some 40, .s (.call 48 [.t 39, .c (.string (str [46, 108, 111, 99, 107]))]), some ⟨38, false⟩⟩,
    ⟨some 41, .p (.pick (.t 38) (.c (.bool true)) (.t 40)), none⟩] [2, 41])
  (.cond (.t 41)
  (.seq (.ops [⟨none, .s (.store 1 (.t 2) (.c (.bool false))), none⟩] [])
    (.ret))
  (.skip)))) Q e H := by_refl rfl
theorem u_refs_IsName_k3_e {P : Program} {Q : VEx → Env → List Ob → Prop} {e : Env} {H : List Ob} : vwp P c_refs_IsName_k3 Q e H = vwp P (.block 0 (.rfunc (.t 29) [30] c_refs_IsName_A1 c_refs_IsName_F2)) Q e H := by_refl rfl
theorem u_refs_IsName_k4_e {P : Program} {Q : VEx → Env → List Ob → Prop} {e : Env} {H : List Ob} : vwp P c_refs_IsName_k4 Q e H = vwp P (.seq (.ops [⟨none, .s (.store 1 (.t 2) (.c (.bool true))), none⟩] [2])
  (.ret)) Q e H := by_refl rfl
theorem u_refs_IsName_k5_e {P : Program} {Q : VEx → Env → List Ob → Prop} {e : Env} {H : List Ob} : vwp P c_refs_IsName_k5 Q e H = vwp P (.seq (.seq (.ops [⟨some 28, .p (.mov (.t 0)), none⟩,
    ⟨some 29, .s (.call 53 [.t 28, .c (.string (str [47]))]), none⟩] [2, 29])
  c_refs_IsName_k3)
  c_refs_IsName_k4) Q e H := by_refl rfl
theorem u_refs_IsName_k6_e {P : Program} {Q : VEx → Env → List Ob → Prop} {e : Env} {H : List Ob} : vwp P c_refs_IsName_k6 Q e H = vwp P (.seq (.seq (.ops [⟨some 26, .p (.mov (.t 0)), none⟩,
    ⟨some 27, .s (.call 50 [.t 26, .c (.func (.func 51) #[] #[])]), none⟩] [0, 2, 27])
  (.cond (.t 27)
  (.seq (.ops [⟨none, .s (.store 1 (.t 2) (.c (.bool false))), none⟩] [2])
    (.ret))
  (.skip)))
  c_refs_IsName_k5) Q e H := by_refl rfl
theorem u_refs_IsName_k7_e {P : Program} {Q : VEx → Env → List Ob → Prop} {e : Env} {H : List Ob} : vwp P c_refs_IsName_k7 Q e H = vwp P (.seq (.seq (.ops [⟨some 6, .p (.mov (.t 0)), none⟩,
    ⟨some 7, .p (.lenS (.t 6)), none⟩,
    ⟨some 8, .p (.bin 3 .gtr (.t 7) (.c (.int .i64 ((60 : Nat) : Int)))), none⟩,
    ⟨some 9, .p (.mov (.t 8)), none⟩,
    ⟨some 10, .p (.mov (.t 0)), some ⟨9, false⟩⟩,
    ⟨some 11, .s (.call 47 [.t 10, .c (.string (str [114, 101, 102, 115, 47]))]), some ⟨9, false⟩⟩,
    ⟨some 12, .p (.un .not (.t 11)), some ⟨9, false⟩⟩,
    ⟨some 13, .p (.pick (.t 9) (.c (.bool true)) (.t 12)), none⟩,
    ⟨some 14, .p (.mov (.t 13)), none⟩,
    ⟨some 15, .p (.mov (.t 0)), some ⟨14, false⟩⟩,
    ⟨some 16, .s (.call 48 [.t 15, .c (.string (str [46]))]), some ⟨14, false⟩⟩,
    ⟨some 17, .p (.pick (.t 14) (.c (.bool true)) (.t 16)), none⟩,
    ⟨some 18, .p (.mov (.t 17)), none⟩,
    ⟨some 19, .p (.mov (.t 0)), some ⟨18, false⟩⟩,
    ⟨some 20, .s (.call 49 [.t 19, .c (.string (str [46, 46]))]), some ⟨18, false⟩⟩,
    ⟨some 21, .p (.pick (.t 18) (.c (.bool true)) (.t 20)), none⟩,
    ⟨some 22, .p (.mov (.t 21)), none⟩,
    ⟨some 23, .p (.mov (.t 0)), some ⟨22, false⟩⟩,
    ⟨some 24, .s (.call 49 [.t 23, .c (.string (str [64, 123]))]), some ⟨22, false⟩⟩,
    ⟨some 25, .p (.pick (.t 22) (.c (.bool true)) (.t 24)), none⟩] [0, 2, 25])
  (.cond (.t 25)
  (.seq (.ops [⟨none, .s (.store 1 (.t 2) (.c (.bool false))), none⟩] [2])
    (.ret))
  (.skip)))
  c_refs_IsName_k6) Q e H := by_refl rfl
theorem u_refs_IsName_k8_e {P : Program} {Q : VEx → Env → List Ob → Prop} {e : Env} {H : List Ob} : vwp P c_refs_IsName_k8 Q e H = vwp P (.seq (.seq (.ops [⟨some 4, .p (.mov (.t 0)), none⟩,
    ⟨some 5, .p (.bin 9 .eql (.t 4) (.c (.string (str [72, 69, 65, 68])))), none⟩] [0, 2, 5])
  (.cond (.t 5)
  (.seq (.ops [⟨none, .s (.store 1 (.t 2) (.c (.bool true))), none⟩] [2])
    (.ret))
  (.skip)))
  c_refs_IsName_k7) Q e H := by_refl rfl
theorem u_refs_IsName_e {P : Program} {Q : VEx → Env → List Ob → Prop} {e : Env} {H : List Ob} : vwp P c_refs_IsName Q e H = vwp P (.seq (.ops [⟨some 2, .s (.alloc (.val (.bool false))), none⟩] [0, 2])
  c_refs_IsName_k8) Q e H := by_refl rfl
theorem u_refs_IsName_r {K : TV → Prop} {e : Env} {H : List Ob} : res r_refs_IsName e H K = res [.cell 2 false 1] e H K := by_refl rfl
def u_refs_IsName := (And.intro (And.intro (And.intro (And.intro @u_refs_IsName_A1_e @u_refs_IsName_F2_e) (And.intro @u_refs_IsName_k3_e @u_refs_IsName_k4_e)) (And.intro (And.intro @u_refs_IsName_k5_e @u_refs_IsName_k6_e) (And.intro @u_refs_IsName_k7_e @u_refs_IsName_k8_e))) (And.intro @u_refs_IsName_e @u_refs_IsName_r))
theorem go_refs_IsName {args : List TV} {H : List Ob} {R : TV → List Ob → Prop} (hn : args.length ≤ 42) (h : vwp Tryd.prog c_refs_IsName (atEnd r_refs_IsName R) (argsE 0 args) H) : VCalls Tryd.prog 15 args H R := vcalls_of Tryd.func15 t_refs_IsName w_refs_IsName hn h

/-! gitlike/refs.IsName$1 -/
def c_refs_IsName_1 : VCode := .seq (.ops [⟨some 2, .p (.mov (.c (.bool false))), none⟩] [0])
  (.seq (.ops [⟨some 3, .p (.mov (.t 0)), none⟩,
    ⟨some 4, .p (.bin 21 .lss (.t 3) (.c (.int .i32 ((33 : Nat) : Int)))), none⟩,
    ⟨some 5, .p (.mov (.t 4)), none⟩,
    ⟨some 6, .p (.mov (.t 0)), some ⟨5, false⟩⟩,
    ⟨some 7, .p (.bin 21 .gtr (.t 6) (.c (.int .i32 ((126 : Nat) : Int)))), some ⟨5, false⟩⟩,
    ⟨some 8, .p (.pick (.t 5) (.c (.bool true)) (.t 7)), none⟩,
    ⟨some 9, .p (.mov (.t 8)), none⟩,
    ⟨some 10, .p (.mov (.t 0)), some ⟨9, false⟩⟩,
    ⟨some 11, .s (.call 52 [.c (.string (str [126, 94, 58, 63, 42, 91, 92])), .t 10]), some ⟨9, false⟩⟩,
    ⟨some 12, .p (.pick (.t 9) (.c (.bool true)) (.t 11)), none⟩,
    ⟨some 2, .p (.mov (.t 12)), none⟩] [2])
  (.ret))
def r_refs_IsName_1 : List VR := [.tmp 2]
theorem t_refs_IsName_1 : Tryd.f51.body.bind (trC Tryd.prog Tryd.f51.ntmps) = some (er c_refs_IsName_1) := by kernel_rfl
theorem w_refs_IsName_1 : trR Tryd.prog Tryd.f51.results.toList = some r_refs_IsName_1 := by kernel_rfl
theorem u_refs_IsName_1_e {P : Program} {Q : VEx → Env → List Ob → Prop} {e : Env} {H : List Ob} : vwp P c_refs_IsName_1 Q e H = vwp P (.seq (.ops [⟨some 2, .p (.mov (.c (.bool false))), none⟩] [0])
  (.seq (.ops [⟨some 3, .p (.mov (.t 0)), none⟩,
    ⟨some 4, .p (.bin 21 .lss (.t 3) (.c (.int .i32 ((33 : Nat) : Int)))), none⟩,
    ⟨some 5, .p (.mov (.t 4)), none⟩,
    ⟨some 6, .p (.mov (.t 0)), some ⟨5, false⟩⟩,
    ⟨some 7, .p (.bin 21 .gtr (.t 6) (.c (.int .i32 ((126 : Nat) : Int)))), some ⟨5, false⟩⟩,
    ⟨some 8, .p (.pick (.t 5) (.c (.bool true)) (.t 7)), none⟩,
    ⟨some 9, .p (.mov (.t 8)), none⟩,
    ⟨some 10, .p (.mov (.t 0)), some ⟨9, false⟩⟩,
    ⟨some 11, .s (.call 52 [.c (.string (str [126, 94, 58, 63, 42, 91, 92])), .t 10]), some ⟨9, false⟩⟩,
    ⟨some 12, .p (.pick (.t 9) (.c (.bool true)) (.t 11)), none⟩,
    ⟨some 2, .p (.mov (.t 12)), none⟩] [2])
  (.ret))) Q e H := by_refl rfl
theorem u_refs_IsName_1_r {K : TV → Prop} {e : Env} {H : List Ob} : res r_refs_IsName_1 e H K = res [.tmp 2] e H K := by_refl rfl
def u_refs_IsName_1 := (And.intro @u_refs_IsName_1_e @u_refs_IsName_1_r)
theorem go_refs_IsName_1 {args : List TV} {H : List Ob} {R : TV → List Ob → Prop} (hn : args.length ≤ 13) (h : vwp Tryd.prog c_refs_IsName_1 (atEnd r_refs_IsName_1 R) (argsE 0 args) H) : VCalls Tryd.prog 51 args H R := vcalls_of Tryd.func51 t_refs_IsName_1 w_refs_IsName_1 hn h

/-! gitlike/gitlikeref7.IsName -/
def c_ref7_IsName_k1 : VCode := .seq (.seq (.ops [⟨some 47, .p (.mov (.t 6)), none⟩,
    ⟨some 48, .p (.bin 3 .eql (.t 47) (.c (.int .i64 ((0 : Nat) : Int)))), none⟩,
    ⟨some 49, .p (.mov (.t 48)), none⟩,
    ⟨some 50, .p (.mov (.t 0)), some ⟨49, false⟩⟩,
    ⟨some 51, .p (.mov (.t 4)), some ⟨49, false⟩⟩,
    ⟨some 52, .p (.idxS (.t 50) (.t 51)), some ⟨49, false⟩⟩,
    ⟨some 53, .p (.bin 5 .eql (.t 52) (.c (.int .u8 ((46 : Nat) : Int)))), some ⟨49, false⟩⟩,
    ⟨some 54, .p (.pick (.t 49) (.c (.bool true)) (.t 53)), none⟩,
    ⟨some 55, .p (.mov (.t 54)), none⟩,
    ⟨some 56, .p (.mov (.t 6)), some ⟨55, false⟩⟩,
    ⟨some 57, .p (.bin 3 .geq (.t 56) (.c (.int .i64 ((5 : Nat) : Int)))), some ⟨55, false⟩⟩,
    ⟨some 58, .p (.mov (.t 57)), some ⟨55, false⟩⟩,
    ⟨some 59, .p (.mov (.t 0)), some ⟨58, true⟩⟩,
    ⟨some 60, .p (.mov (.t 5)), some ⟨58, true⟩⟩,
    ⟨some 61, .p (.bin 3 .sub (.t 60) (.c (.int .i64 ((5 : Nat) : Int)))), some ⟨58, true⟩⟩,
    ⟨some 62, .p (.mov (.t 5)), some ⟨58, true⟩⟩,
    ⟨some 63, .p (.slS (.t 59) (some (.t 61)) (some (.t 62))), some ⟨58, true⟩⟩,
    ⟨some 64, .p (.bin 9 .eql (.t 63) (.c (.string (str [46, 108, 111, 99, 107])))), some ⟨58, true⟩⟩,
    ⟨some 65, .p (.pick (.t 58) (.t 64) (.c (.bool false))), some ⟨55, false⟩⟩,
    ⟨some 66, .p (.pick (.t 55) (.c (.bool true)) (.t 65)), none⟩] [0, 3, 5, 66])
  (.cond (.t 66)
  (.seq (.ops [⟨some 2, .p (.mov (.c (.bool false))), none⟩] [2])
    (.ret))
  (.skip)))
  (.seq (.ops [⟨some 67, .p (.mov (.t 5)), none⟩,
    ⟨some 68, .p (.bin 3 .add (.t 67) (.c (.int .i64 ((1 : Nat) : Int)))), none⟩,
    ⟨some 4, .p (.mov (.t 68)), none⟩] [0, 3, 4, 5])
  (.exit 1))
def c_ref7_IsName_b2 : VCode := .seq (.ops [⟨some 44, .p (.mov (.t 5)), none⟩,
    ⟨some 45, .p (.mov (.t 4)), none⟩,
    ⟨some 46, .p (.bin 3 .sub (.t 44) (.t 45)), none⟩,
    ⟨some 6, .p (.mov (.t 46)), none⟩] [0, 3, 4, 5, 6])
  c_ref7_IsName_k1
def c_ref7_IsName_k3 : VCode := .cond (.t 43)
  c_ref7_IsName_b2
  (.skip)
def c_ref7_IsName_k4 : VCode := .seq (.ops [⟨some 106, .p (.mov (.t 5)), none⟩,
    ⟨some 107, .p (.bin 3 .gtr (.t 106) (.c (.int .i64 ((0 : Nat) : Int)))), none⟩,
    ⟨some 108, .p (.mov (.t 107)), none⟩,
    ⟨some 109, .p (.mov (.t 7)), some ⟨108, true⟩⟩,
    ⟨some 110, .p (.bin 5 .eql (.t 109) (.c (.int .u8 ((46 : Nat) : Int)))), some ⟨108, true⟩⟩,
    ⟨some 111, .p (.mov (.t 110)), some ⟨108, true⟩⟩,
    ⟨some 112, .p (.mov (.t 0)), some ⟨111, true⟩⟩,
    ⟨some 113, .p (.mov (.t 5)), some ⟨111, true⟩⟩,
    ⟨some 114, .p (.bin 3 .sub (.t 113) (.c (.int .i64 ((1 : Nat) : Int)))), some ⟨111, true⟩⟩,
    ⟨some 115, .p (.idxS (.t 112) (.t 114)), some ⟨111, true⟩⟩,
    ⟨some 116, .p (.bin 5 .eql (.t 115) (.c (.int .u8 ((46 : Nat) : Int)))), some ⟨111, true⟩⟩,
    ⟨some 117, .p (.pick (.t 111) (.t 116) (.c (.bool false))), some ⟨108, true⟩⟩,
    ⟨some 118, .p (.mov (.t 117)), some ⟨108, true⟩⟩,
    ⟨some 119, .p (.mov (.t 7)), some ⟨118, false⟩⟩,
    ⟨some 120, .p (.bin 5 .eql (.t 119) (.c (.int .u8 ((123 : Nat) : Int)))), some ⟨118, false⟩⟩,
    ⟨some 121, .p (.mov (.t 120)), some ⟨118, false⟩⟩,
    ⟨some 122, .p (.mov (.t 0)), some ⟨121, true⟩⟩,
    ⟨some 123, .p (.mov (.t 5)), some ⟨121, true⟩⟩,
    ⟨some 124, .p (.bin 3 .sub (.t 123) (.c (.int .i64 ((1 : Nat) : Int)))), some ⟨121, true⟩⟩,
    ⟨some 125, .p (.idxS (.t 122) (.t 124)), some ⟨121, true⟩⟩,
    ⟨some 126, .p (.bin 5 .eql (.t 125) (.c (.int .u8 ((64 : Nat) : Int)))), some ⟨121, true⟩⟩,
    ⟨some 127, .p (.pick (.t 121) (.t 126) (.c (.bool false))), some ⟨118, false⟩⟩,
    ⟨some 128, .p (.pick (.t 118) (.c (.bool true)) (.t 127)), some ⟨108, true⟩⟩,
    ⟨some 129, .p (.pick (.t 108) (.t 128) (.c (.bool false))), none⟩] [0, 3, 4, 5, 129])
  (.cond (.t 129)
  (.seq (.ops [⟨some 2, .p (.mov (.c (.bool false))), none⟩] [2])
    (.ret))
  (.skip))
def c_ref7_IsName_k5 : VCode := .seq (.seq (.ops [⟨some 72, .p (.mov (.t 7)), none⟩,
    ⟨some 73, .p (.bin 5 .lss (.t 72) (.c (.int .u8 ((33 : Nat) : Int)))), none⟩,
    ⟨some 74, .p (.mov (.t 73)), none⟩,
    ⟨some 75, .p (.mov (.t 7)), some ⟨74, false⟩⟩,
    ⟨some 76, .p (.bin 5 .gtr (.t 75) (.c (.int .u8 ((126 : Nat) : Int)))), some ⟨74, false⟩⟩,
    ⟨some 77, .p (.pick (.t 74) (.c (.bool true)) (.t 76)), none⟩,
    ⟨some 78, .p (.mov (.t 77)), none⟩,
    ⟨some 79, .p (.mov (.t 7)), some ⟨78, false⟩⟩,
    ⟨some 80, .p (.bin 5 .eql (.t 79) (.c (.int .u8 ((126 : Nat) : Int)))), some ⟨78, false⟩⟩,
    ⟨some 81, .p (.pick (.t 78) (.c (.bool true)) (.t 80)), none⟩,
    ⟨some 82, .p (.mov (.t 81)), none⟩,
    ⟨some 83, .p (.mov (.t 7)), some ⟨82, false⟩⟩,
    ⟨some 84, .p (.bin 5 .eql (.t 83) (.c (.int .u8 ((94 : Nat) : Int)))), some ⟨82, false⟩⟩,
    ⟨some 85, .p (.pick (.t 82) (.c (.bool true)) (.t 84)), none⟩,
    ⟨some 86, .p (.mov (.t 85)), none⟩,
    ⟨some 87, .p (.mov (.t 7)), some ⟨86, false⟩⟩,
    ⟨some 88, .p (.bin 5 .eql (.t 87) (.c (.int .u8 ((58 : Nat) : Int)))), some ⟨86, false⟩⟩,
    ⟨some 89, .p (.pick (.t 86) (.c (.bool true)) (.t 88)), none⟩,
    ⟨some 90, .p (.mov (.t 89)), none⟩,
    ⟨some 91, .p (.mov (.t 7)), some ⟨90, false⟩⟩,
    ⟨some 92, .p (.bin 5 .eql (.t 91) (.c (.int .u8 ((63 : Nat) : Int)))), some ⟨90, false⟩⟩,
    ⟨some 93, .p (.pick (.t 90) (.c (.bool true)) (.t 92)), none⟩,
    ⟨some 94, .p (.mov (.t 93)), none⟩,
    ⟨some 95, .p (.mov (.t 7)), some ⟨94, false⟩⟩,
    ⟨some 96, .p (.bin 5 .eql (.t 95) (.c (.int .u8 ((42 : Nat) : Int)))), some ⟨94, false⟩⟩,
    ⟨some 97, .p (.pick (.t 94) (.c (.bool true)) (.t 96)), none⟩,
    ⟨some 98, .p (.mov (.t 97)), none⟩,
    ⟨some 99, .p (.mov (.t 7)), some ⟨98, false⟩⟩,
    ⟨some 100, .p (.bin 5 .eql (.t 99) (.c (.int .u8 ((91 : Nat) : Int)))), some ⟨98, false⟩⟩,
    ⟨some 101, .p (.pick (.t 98) (.c (.bool true)) (.t 100)), none⟩,
    ⟨some 102, .p (.mov (.t 101)), none⟩,
    ⟨some 103, .p (.mov (.t 7)), some ⟨102, false⟩⟩,
    ⟨some 104, .p (.bin 5 .eql (.t 103) (.c (.int .u8 ((92 : Nat) : Int)))), some ⟨102, false⟩⟩,
    ⟨some 105, .p (.pick (.t 102) (.c (.bool true)) (.t 104)), none⟩] [0, 3, 4, 5, 7, 105])
  (.cond (.t 105)
  (.seq (.ops [⟨some 2, .p (.mov (.c (.bool false))), none⟩] [2])
    (.ret))
  (.skip)))
  c_ref7_IsName_k4
def c_ref7_IsName_k6 : VCode := .seq (.ops [⟨some 69, .p (.mov (.t 0)), none⟩,
    ⟨some 70, .p (.mov (.t 5)), none⟩,
    ⟨some 71, .p (.idxS (.t 69) (.t 70)), none⟩,
    ⟨some 7, .p (.mov (.t 71)), none⟩] [0, 3, 4, 5, 7])
  c_ref7_IsName_k5
def c_ref7_IsName_k7 : VCode := .seq (.block 1 (.seq (.seq (.ops [⟨some 35, .p (.mov (.t 5)), none⟩,
    ⟨some 36, .p (.mov (.t 3)), none⟩,
    ⟨some 37, .p (.bin 3 .eql (.t 35) (.t 36)), none⟩,
    ⟨some 38, .p (.mov (.t 37)), none⟩,
    ⟨some 39, .p (.mov (.t 0)), some ⟨38, false⟩⟩,
    ⟨some 40, .p (.mov (.t 5)), some ⟨38, false⟩⟩,
    ⟨some 41, .p (.idxS (.t 39) (.t 40)), some ⟨38, false⟩⟩,
    ⟨some 42, .p (.bin 5 .eql (.t 41) (.c (.int .u8 ((47 : Nat) : Int)))), some ⟨38, false⟩⟩,
    ⟨some 43, .p (.pick (.t 38) (.c (.bool true)) (.t 42)), none⟩] [0, 3, 4, 5, 43])
  c_ref7_IsName_k3)
  c_ref7_IsName_k6))
  (.ops [⟨some 33, .p (.mov (.t 5)), none⟩,
    ⟨some 34, .p (.bin 3 .add (.t 33) (.c (.int .i64 ((1 : Nat) : Int)))), none⟩,
    ⟨some 5, .p (.mov (.t 34)), none⟩] [0, 3, 4, 5])
def c_ref7_IsName_L8 : VCode := .seq (.seq (.ops [⟨some 30, .p (.mov (.t 5)), none⟩,
    ⟨some 31, .p (.mov (.t 3)), none⟩,
    ⟨some 32, .p (.bin 3 .leq (.t 30) (.t 31)), none⟩] [0, 3, 4, 5, 32])
  (.cond (.t 32)
  (.skip)
  (.exit 0)))
  c_ref7_IsName_k7
def c_ref7_IsName_k9 : VCode := .block 0 (.loop [0, 3, 4, 5] c_ref7_IsName_L8)
def c_ref7_IsName_k10 : VCode := .seq (.ops [⟨some 2, .p (.mov (.c (.bool true))), none⟩] [2])
  (.ret)
def c_ref7_IsName_k11 : VCode := .seq (.seq (.ops [⟨some 5, .p (.mov (.c (.int .i64 ((0 : Nat) : Int)))), none⟩] [0, 3, 4, 5])
  c_ref7_IsName_k9)
  c_ref7_IsName_k10
def c_ref7_IsName_k12 : VCode := .seq (.ops [⟨some 4, .p (.mov (.c (.int .i64 ((0 : Nat) : Int)))), none⟩] [0, 3, 4])
  c_ref7_IsName_k11
def c_ref7_IsName_k13 : VCode := .seq (.seq (.ops [⟨some 12, .p (.mov (.t 3)), none⟩,
    ⟨some 13, .p (.bin 3 .gtr (.t 12) (.c (.int .i64 ((60 : Nat) : Int)))), none⟩,
    ⟨some 14, .p (.mov (.t 13)), none⟩,
    ⟨some 15, .p (.mov (.t 3)), some ⟨14, false⟩⟩,
    ⟨some 16, .p (.bin 3 .lss (.t 15) (.c (.int .i64 ((6 : Nat) : Int)))), some ⟨14, false⟩⟩,
    ⟨some 17, .p (.pick (.t 14) (.c (.bool true)) (.t 16)), none⟩,
    ⟨some 18, .p (.mov (.t 17)), none⟩,
    ⟨some 19, .p (.mov (.t 0)), some ⟨18, false⟩⟩,
    ⟨some 20, .p (.slS (.t 19) none (some (.c (.int .i64 ((5 : Nat) : Int))))), some ⟨18, false⟩⟩,
    ⟨some 21, .p (.bin 9 .neq (.t 20) (.c (.string (str [114, 101, 102, 115, 47])))), some ⟨18, false⟩⟩,
    ⟨some 22, .p (.pick (.t 18) (.c (.bool true)) (.t 21)), none⟩,
    ⟨some 23, .p (.mov (.t 22)), none⟩,
    ⟨some 24, .p (.mov (.t 0)), some ⟨23, false⟩⟩,
    ⟨some 25, .p (.mov (.t 3)), some ⟨23, false⟩⟩,
    ⟨some 26, .p (.bin 3 .sub (.t 25) (.c (.int .i64 ((1 : Nat) : Int)))), some ⟨23, false⟩⟩,
    ⟨some 27, .p (.idxS (.t 24) (.t 26)), some ⟨23, false⟩⟩,
    ⟨some 28, .p (.bin 5 .eql (.t 27) (.c (.int .u8 ((46 : Nat) : Int)))), some ⟨23, false⟩⟩,
    ⟨some 29, .p (.pick (.t 23) (.c (.bool true)) (.t 28)), none⟩] [0, 3, 29])
  (.cond (.t 29)
  (.seq (.ops [⟨some 2, .p (.mov (.c (.bool false))), none⟩] [2])
    (.ret))
  (.skip)))
  c_ref7_IsName_k12
def c_ref7_IsName_k14 : VCode := .seq (.ops [⟨some 10, .p (.mov (.t 0)), none⟩,
    ⟨some 11, .p (.lenS (.t 10)), none⟩,
    ⟨some 3, .p (.mov (.t 11)), none⟩] [0, 3])
  c_ref7_IsName_k13
def c_ref7_IsName_k15 : VCode := .seq (.seq (.ops [⟨some 8, .p (.mov (.t 0)), none⟩,
    ⟨some 9, .p (.bin 9 .eql (.t 8) (.c (.string (str [72, 69, 65, 68])))), none⟩] [0, 9])
  (.cond (.t 9)
  (.seq (.ops [⟨some 2, .p (.mov (.c (.bool true))), none⟩] [2])
    (.ret))
  (.skip)))
  c_ref7_IsName_k14
def c_ref7_IsName : VCode := .seq (.ops [⟨some 2, .p (.mov (.c (.bool false))), none⟩] [0])
  c_ref7_IsName_k15
def r_ref7_IsName : List VR := [.tmp 2]
theorem t_ref7_IsName : Tryd.f16.body.bind (trC Tryd.prog Tryd.f16.ntmps) = some (er c_ref7_IsName) := by kernel_rfl
theorem w_ref7_IsName : trR Tryd.prog Tryd.f16.results.toList = some r_ref7_IsName := by kernel_rfl
theorem u_ref7_IsName_k1_e {P : Program} {Q : VEx → Env → List Ob → Prop} {e : Env} {H : List Ob} : vwp P c_ref7_IsName_k1 Q e H = vwp P (.seq (.seq (.ops [⟨some 47, .p (.mov (.t 6)), none⟩,
    ⟨some 48, .p (.bin 3 .eql (.t 47) (.c (.int .i64 ((0 : Nat) : Int)))), none⟩,
    ⟨some 49, .p (.mov (.t 48)), none⟩,
    ⟨some 50, .p (.mov (.t 0)), some ⟨49, false⟩⟩,
    ⟨some 51, .p (.mov (.t 4)), some ⟨49, false⟩⟩,
    ⟨some 52, .p (.idxS (.t 50) (.t 51)), some ⟨49, false⟩⟩,
    ⟨some 53, .p (.bin 5 .eql (.t 52) (.c (.int .u8 ((46 : Nat) : Int)))), some ⟨49, false⟩⟩,
    ⟨some 54, .p (.pick (.t 49) (.c (.bool true)) (.t 53)), none⟩,
    ⟨some 55, .p (.mov (.t 54)), none⟩,
    ⟨some 56, .p (.mov (.t 6)), some ⟨55, false⟩⟩,
    ⟨some 57, .p (.bin 3 .geq (.t 56) (.c (.int .i64 ((5 : Nat) : Int)))), some ⟨55, false⟩⟩,
    ⟨some 58, .p (.mov (.t 57)), some ⟨55, false⟩⟩,
    ⟨some 59, .p (.mov (.t 0)), some ⟨58, true⟩⟩,
    ⟨some 60, .p (.mov (.t 5)), some ⟨58, true⟩⟩,
    ⟨some 61, .p (.bin 3 .sub (.t 60) (.c (.int .i64 ((5 : Nat) : Int)))), some ⟨58, true⟩⟩,
    ⟨some 62, .p (.mov (.t 5)), some ⟨58, true⟩⟩,
    ⟨some 63, .p (.slS (.t 59) (some (.t 61)) (some (.t 62))), some ⟨58, true⟩⟩,
    ⟨some 64, .p (.bin 9 .eql (.t 63) (.c (.string (str [46, 108, 111, 99, 107])))), some ⟨58, true⟩⟩,
    ⟨some 65, .p (.pick (.t 58) (.t 64) (.c (.bool false))), some ⟨55, false⟩⟩,
    ⟨some 66, .p (.pick (.t 55) (.c (.bool true)) (.t 65)), none⟩] [0, 3, 5, 66])
  (.cond (.t 66)
  (.seq (.ops [⟨some 2, .p (.mov (.c (.bool false))), none⟩] [2])
    (.ret))
  (.skip)))
  (.seq (.ops [⟨some 67, .p (.mov (.t 5)), none⟩,
    ⟨some 68, .p (.bin 3 .add (.t 67) (.c (.int .i64 ((1 : Nat) : Int)))), none⟩,
    ⟨some 4, .p (.mov (.t 68)), none⟩] [0, 3, 4, 5])
  (.exit 1))) Q e H := by_refl rfl
theorem u_ref7_IsName_b2_e {P : Program} {Q : VEx → Env → List Ob → Prop} {e : Env} {H : List Ob} : vwp P c_ref7_IsName_b2 Q e H = vwp P (.seq (.ops [⟨some 44, .p (.mov (.t 5)), none⟩,
    ⟨some 45, .p (.mov (.t 4)), none⟩,
    ⟨some 46, .p (.bin 3 .sub (.t 44) (.t 45)), none⟩,
    ⟨some 6, .p (.mov (.t 46)), none⟩] [0, 3, 4, 5, 6])
  c_ref7_IsName_k1) Q e H := by_refl rfl
theorem u_ref7_IsName_k3_e {P : Program} {Q : VEx → Env → List Ob → Prop} {e : Env} {H : List Ob} : vwp P c_ref7_IsName_k3 Q e H = vwp P (.cond (.t 43)
  c_ref7_IsName_b2
  (.skip)) Q e H := by_refl rfl
theorem u_ref7_IsName_k4_e {P : Program} {Q : VEx → Env → List Ob → Prop} {e : Env} {H : List Ob} : vwp P c_ref7_IsName_k4 Q e H = vwp P (.seq (.ops [⟨some 106, .p (.mov (.t 5)), none⟩,
    ⟨some 107, .p (.bin 3 .gtr (.t 106) (.c (.int .i64 ((0 : Nat) : Int)))), none⟩,
    ⟨some 108, .p (.mov (.t 107)), none⟩,
    ⟨some 109, .p (.mov (.t 7)), some ⟨108, true⟩⟩,
    ⟨some 110, .p (.bin 5 .eql (.t 109) (.c (.int .u8 ((46 : Nat) : Int)))), some ⟨108, true⟩⟩,
    ⟨some 111, .p (.mov (.t 110)), some ⟨108, true⟩⟩,
    ⟨some 112, .p (.mov (.t 0)), some ⟨111, true⟩⟩,
    ⟨some 113, .p (.mov (.t 5)), some ⟨111, true⟩⟩,
    ⟨some 114, .p (.bin 3 .sub (.t 113) (.c (.int .i64 ((1 : Nat) : Int)))), some ⟨111, true⟩⟩,
    ⟨some 115, .p (.idxS (.t 112) (.t 114)), some ⟨111, true⟩⟩,
    ⟨some 116, .p (.bin 5 .eql (.t 115) (.c (.int .u8 ((46 : Nat) : Int)))), some ⟨111, true⟩⟩,
    ⟨some 117, .p (.pick (.t 111) (.t 116) (.c (.bool false))), some ⟨108, true⟩⟩,
    ⟨some 118, .p (.mov (.t 117)), some ⟨108, true⟩⟩,
    ⟨some 119, .p (.mov (.t 7)), some ⟨118, false⟩⟩,
    ⟨some 120, .p (.bin 5 .eql (.t 119) (.c (.int .u8 ((123 : Nat) : Int)))), some ⟨118, false⟩⟩,
    ⟨some 121, .p (.mov (.t 120)), some ⟨118, false⟩⟩,
    ⟨some 122, .p (.mov (.t 0)), some ⟨121, true⟩⟩,
    ⟨some 123, .p (.mov (.t 5)), some ⟨121, true⟩⟩,
    ⟨some 124, .p (.bin 3 .sub (.t 123) (.c (.int .i64 ((1 : Nat) : Int)))), some ⟨121, true⟩⟩,
    ⟨some 125, .p (.idxS (.t 122) (.t 124)), some ⟨121, true⟩⟩,
    ⟨some 126, .p (.bin 5 .eql (.t 125) (.c (.int .u8 ((64 : Nat) : Int)))), some ⟨121, true⟩⟩,
    ⟨some 127, .p (.pick (.t 121) (.t 126) (.c (.bool false))), some ⟨118, false⟩⟩,
    ⟨some 128, .p (.pick (.t 118) (.c (.bool true)) (.t 127)), some ⟨108, true⟩⟩,
    ⟨some 129, .p (.pick (.t 108) (.t 128) (.c (.bool false))), none⟩] [0, 3, 4, 5, 129])
  (.cond (.t 129)
  (.seq (.ops [⟨some 2, .p (.mov (.c (.bool false))), none⟩] [2])
    (.ret))
  (.skip))) Q e H := by_refl rfl
theorem u_ref7_IsName_k5_e {P : Program} {Q : VEx → Env → List Ob → Prop} {e : Env} {H : List Ob} : vwp P c_ref7_IsName_k5 Q e H = vwp P (.seq (.seq (.ops [⟨some 72, .p (.mov (.t 7)), none⟩,
    ⟨some 73, .p (.bin 5 .lss (.t 72) (.c (.int .u8 ((33 : Nat) : Int)))), none⟩,
    ⟨some 74, .p (.mov (.t 73)), none⟩,
    ⟨some 75, .p (.mov (.t 7)), some ⟨74, false⟩⟩,
    ⟨some 76, .p (.bin 5 .gtr (.t 75) (.c (.int .u8 ((126 : Nat) : Int)))), some ⟨74, false⟩⟩,
    ⟨some 77, .p (.pick (.t 74) (.c (.bool true)) (.t 76)), none⟩,
    ⟨some 78, .p (.mov (.t 77)), none⟩,
    ⟨some 79, .p (.mov (.t 7)), some ⟨78, false⟩⟩,
    ⟨some 80, .p (.bin 5 .eql (.t 79) (.c (.int .u8 ((126 : Nat) : Int)))), some ⟨78, false⟩⟩,
    ⟨some 81, .p (.pick (.t 78) (.c (.bool true)) (.t 80)), none⟩,
    ⟨some 82, .p (.mov (.t 81)), none⟩,
    ⟨some 83, .p (.mov (.t 7)), some ⟨82, false⟩⟩,
    ⟨some 84, .p (.bin 5 .eql (.t 83) (.c (.int .u8 ((94 : Nat) : Int)))), some ⟨82, false⟩⟩,
    ⟨some 85, .p (.pick (.t 82) (.c (.bool true)) (.t 84)), none⟩,
    ⟨some 86, .p (.mov (.t 85)), none⟩,
    ⟨some 87, .p (.mov (.t 7)), some ⟨86, false⟩⟩,
    ⟨some 88, .p (.bin 5 .eql (.t 87) (.c (.int .u8 ((58 : Nat) : Int)))), some ⟨86, false⟩⟩,
    ⟨some 89, .p (.pick (.t 86) (.c (.bool true)) (.t 88)), none⟩,
    ⟨some 90, .p (.mov (.t 89)), none⟩,
    ⟨some 91, .p (.mov (.t 7)), some ⟨90, false⟩⟩,
    ⟨some 92, .p (.bin 5 .eql (.t 91) (.c (.int .u8 ((63 : Nat) : Int)))), some ⟨90, false⟩⟩,
    ⟨some 93, .p (.pick (.t 90) (.c (.bool true)) (.t 92)), none⟩,
    ⟨some 94, .p (.mov (.t 93)), none⟩,
    ⟨some 95, .p (.mov (.t 7)), some ⟨94, false⟩⟩,
    ⟨some 96, .p (.bin 5 .eql (.t 95) (.c (.int .u8 ((42 : Nat) : Int)))), some ⟨94, false⟩⟩,
    ⟨some 97, .p (.pick (.t 94) (.c (.bool true)) (.t 96)), none⟩,
    ⟨some 98, .p (.mov (.t 97)), none⟩,
    ⟨some 99, .p (.mov (.t 7)), some ⟨98, false⟩⟩,
    ⟨some 100, .p (.bin 5 .eql (.t 99) (.c (.int .u8 ((91 : Nat) : Int)))), some ⟨98, false⟩⟩,
    ⟨some 101, .p (.pick (.t 98) (.c (.bool true)) (.t 100)), none⟩,
    ⟨some 102, .p (.mov (.t 101)), none⟩,
    ⟨some 103, .p (.mov (.t 7)), some ⟨102, false⟩⟩,
    ⟨some 104, .p (.bin 5 .eql (.t 103) (.c (.int .u8 ((92 : Nat) : Int)))), some ⟨102, false⟩⟩,
    ⟨some 105, .p (.pick (.t 102) (.c (.bool true)) (.t 104)), none⟩] [0, 3, 4, 5, 7, 105])
  (.cond (.t 105)
  (.seq (.ops [⟨some 2, .p (.mov (.c (.bool false))), none⟩] [2])
    (.ret))
  (.skip)))
  c_ref7_IsName_k4) Q e H := by_refl rfl
theorem u_ref7_IsName_k6_e {P : Program} {Q : VEx → Env → List Ob → Prop} {e : Env} {H : List Ob} : vwp P c_ref7_IsName_k6 Q e H = vwp P (.seq (.ops [⟨some 69, .p (.mov (.t 0)), none⟩,
    ⟨some 70, .p (.mov (.t 5)), none⟩,
    ⟨some 71, .p (.idxS (.t 69) (.t 70)), none⟩,
    ⟨some 7, .p (.mov (.t 71)), none⟩] [0, 3, 4, 5, 7])
  c_ref7_IsName_k5) Q e H := by_refl rfl
theorem u_ref7_IsName_k7_e {P : Program} {Q : VEx → Env → List Ob → Prop} {e : Env} {H : List Ob} : vwp P c_ref7_IsName_k7 Q e H = vwp P (.seq (.block 1 (.seq (.seq (.ops [⟨some 35, .p (.mov (.t 5)), none⟩,
    ⟨some 36, .p (.mov (.t 3)), none⟩,
    ⟨some 37, .p (.bin 3 .eql (.t 35) (.t 36)), none⟩,
    ⟨some 38, .p (.mov (.t 37)), none⟩,
    ⟨some 39, .p (.mov (.t 0)), some ⟨38, false⟩⟩,
    ⟨some 40, .p (.mov (.t 5)), some ⟨38, false⟩⟩,
    ⟨some 41, .p (.idxS (.t 39) (.t 40)), some ⟨38, false⟩⟩,
    ⟨some 42, .p (.bin 5 .eql (.t 41) (.c (.int .u8 ((47 : Nat) : Int)))), some ⟨38, false⟩⟩,
    ⟨some 43, .p (.pick (.t 38) (.c (.bool true)) (.t 42)), none⟩] [0, 3, 4, 5, 43])
  c_ref7_IsName_k3)
  c_ref7_IsName_k6))
  (.ops [⟨some 33, .p (.mov (.t 5)), none⟩,
    ⟨some 34, .p (.bin 3 .add (.t 33) (.c (.int .i64 ((1 : Nat) : Int)))), none⟩,
    ⟨some 5, .p (.mov (.t 34)), none⟩] [0, 3, 4, 5])) Q e H := by_refl rfl
theorem u_ref7_IsName_L8_e {P : Program} {Q : VEx → Env → List Ob → Prop} {e : Env} {H : List Ob} : vwp P c_ref7_IsName_L8 Q e H = vwp P (.seq (.seq (.ops [⟨some 30, .p (.mov (.t 5)), none⟩,
    ⟨some 31, .p (.mov (.t 3)), none⟩,
    ⟨some 32, .p (.bin 3 .leq (.t 30) (.t 31)), none⟩] [0, 3, 4, 5, 32])
  (.cond (.t 32)
  (.skip)
  (.exit 0)))
  c_ref7_IsName_k7) Q e H := by_refl rfl
theorem u_ref7_IsName_k9_e {P : Program} {Q : VEx → Env → List Ob → Prop} {e : Env} {H : List Ob} : vwp P c_ref7_IsName_k9 Q e H = vwp P (.block 0 (.loop [0, 3, 4, 5] c_ref7_IsName_L8)) Q e H := by_refl rfl
theorem u_ref7_IsName_k10_e {P : Program} {Q : VEx → Env → List Ob → Prop} {e : Env} {H : List Ob} : vwp P c_ref7_IsName_k10 Q e H = vwp P (.seq (.ops [⟨some 2, .p (.mov (.c (.bool true))), none⟩] [2])
  (.ret)) Q e H := by_refl rfl
theorem u_ref7_IsName_k11_e {P : Program} {Q : VEx → Env → List Ob → Prop} {e : Env} {H : List Ob} : vwp P c_ref7_IsName_k11 Q e H = vwp P (.seq (.seq (.ops [⟨some 5, .p (.mov (.c (.int .i64 ((0 : Nat) : Int)))), none⟩] [0, 3, 4, 5])
  c_ref7_IsName_k9)
  c_ref7_IsName_k10) Q e H := by_refl rfl
theorem u_ref7_IsName_k12_e {P : Program} {Q : VEx → Env → List Ob → Prop} {e : Env} {H : List Ob} : vwp P c_ref7_IsName_k12 Q e H = vwp P (.seq (.ops [⟨some 4, .p (.mov (.c (.int .i64 ((0 : Nat) : Int)))), none⟩] [0, 3, 4])
  c_ref7_IsName_k11) Q e H := by_refl rfl
theorem u_ref7_IsName_k13_e {P : Program} {Q : VEx → Env → List Ob → Prop} {e : Env} {H : List Ob} : vwp P c_ref7_IsName_k13 Q e H = vwp P (.seq (.seq (.ops [⟨some 12, .p (.mov (.t 3)), none⟩,
    ⟨some 13, .p (.bin 3 .gtr (.t 12) (.c (.int .i64 ((60 : Nat) : Int)))), none⟩,
    ⟨some 14, .p (.mov (.t 13)), none⟩,
    ⟨some 15, .p (.mov (.t 3)), some ⟨14, false⟩⟩,
    ⟨some 16, .p (.bin 3 .lss (.t 15) (.c (.int .i64 ((6 : Nat) : Int)))), some ⟨14, false⟩⟩,
    ⟨some 17, .p (.pick (.t 14) (.c (.bool true)) (.t 16)), none⟩,
    ⟨some 18, .p (.mov (.t 17)), none⟩,
    ⟨some 19, .p (.mov (.t 0)), some ⟨18, false⟩⟩,
    ⟨some 20, .p (.slS (.t 19) none (some (.c (.int .i64 ((5 : Nat) : Int))))), some ⟨18, false⟩⟩,
    ⟨some 21, .p (.bin 9 .neq (.t 20) (.c (.string (str [114, 101, 102, 115, 47])))), some ⟨18, false⟩⟩,
    ⟨some 22, .p (.pick (.t 18) (.c (.bool true)) (.t 21)), none⟩,
    ⟨some 23, .p (.mov (.t 22)), none⟩,
    ⟨some 24, .p (.mov (.t 0)), some ⟨23, false⟩⟩,
    ⟨some 25, .p (.mov (.t 3)), some ⟨23, false⟩⟩,
    ⟨some 26, .p (.bin 3 .sub (.t 25) (.c (.int .i64 ((1 : Nat) : Int)))), some ⟨23, false⟩⟩,
    ⟨some 27, .p (.idxS (.t 24) (.t 26)), some ⟨23, false⟩⟩,
    ⟨some 28, .p (.bin 5 .eql (.t 27) (.c (.int .u8 ((46 : Nat) : Int)))), some ⟨23, false⟩⟩,
    ⟨some 29, .p (.pick (.t 23) (.c (.bool true)) (.t 28)), none⟩] [0, 3, 29])
  (.cond (.t 29)
  (.seq (.ops [⟨some 2, .p (.mov (.c (.bool false))), none⟩] [2])
    (.ret))
  (.skip)))
  c_ref7_IsName_k12) Q e H := by_refl rfl
theorem u_ref7_IsName_k14_e {P : Program} {Q : VEx → Env → List Ob → Prop} {e : Env} {H : List Ob} : vwp P c_ref7_IsName_k14 Q e H = vwp P (.seq (.ops [⟨some 10, .p (.mov (.t 0)), none⟩,
    ⟨some 11, .p (.lenS (.t 10)), none⟩,
    ⟨some 3, .p (.mov (.t 11)), none⟩] [0, 3])
  c_ref7_IsName_k13) Q e H := by_refl rfl
theorem u_ref7_IsName_k15_e {P : Program} {Q : VEx → Env → List Ob → Prop} {e : Env} {H : List Ob} : vwp P c_ref7_IsName_k15 Q e H = vwp P (.seq (.seq (.ops [⟨some 8, .p (.mov (.t 0)), none⟩,
    ⟨some 9, .p (.bin 9 .eql (.t 8) (.c (.string (str [72, 69, 65, 68])))), none⟩] [0, 9])
  (.cond (.t 9)
  (.seq (.ops [⟨some 2, .p (.mov (.c (.bool true))), none⟩] [2])
    (.ret))
  (.skip)))
  c_ref7_IsName_k14) Q e H := by_refl rfl
theorem u_ref7_IsName_e {P : Program} {Q : VEx → Env → List Ob → Prop} {e : Env} {H : List Ob} : vwp P c_ref7_IsName Q e H = vwp P (.seq (.ops [⟨some 2, .p (.mov (.c (.bool false))), none⟩] [0])
  c_ref7_IsName_k15) Q e H := by_refl rfl
theorem u_ref7_IsName_r {K : TV → Prop} {e : Env} {H : List Ob} : res r_ref7_IsName e H K = res [.tmp 2] e H K := by_refl rfl
def u_ref7_IsName := (And.intro (And.intro (And.intro (And.intro (And.intro @u_ref7_IsName_k1_e @u_ref7_IsName_b2_e) (And.intro @u_ref7_IsName_k3_e @u_ref7_IsName_k4_e)) (And.intro (And.intro @u_ref7_IsName_k5_e @u_ref7_IsName_k6_e) (And.intro @u_ref7_IsName_k7_e @u_ref7_IsName_L8_e))) (And.intro (And.intro (And.intro @u_ref7_IsName_k9_e @u_ref7_IsName_k10_e) (And.intro @u_ref7_IsName_k11_e @u_ref7_IsName_k12_e)) (And.intro (And.intro @u_ref7_IsName_k13_e @u_ref7_IsName_k14_e) (And.intro @u_ref7_IsName_k15_e @u_ref7_IsName_e)))) @u_ref7_IsName_r)
theorem go_ref7_IsName {args : List TV} {H : List Ob} {R : TV → List Ob → Prop} (hn : args.length ≤ 130) (h : vwp Tryd.prog c_ref7_IsName (atEnd r_ref7_IsName R) (argsE 0 args) H) : VCalls Tryd.prog 16 args H R := vcalls_of Tryd.func16 t_ref7_IsName w_ref7_IsName hn h

/-! gitlike/gitlikelaw7.RefsNames -/
def c_law7_RefsNames_k1 : VCode := .seq (.seq (.ops [⟨some 5, .p (.mov (.t 0)), none⟩,
    ⟨some 6, .p (.lenS (.t 5)), none⟩,
    ⟨some 7, .p (.bin 3 .gtr (.t 6) (.c (.int .i64 ((100000 : Nat) : Int)))), none⟩] [0, 7])
  (.cond (.t 7)
  (.seq (.ops [⟨some 2, .p (.mov (.c (.bool true))), none⟩] [2])
    (.ret))
  (.skip)))
  (.seq (.ops [⟨some 8, .p (.mov (.t 0)), none⟩,
    ⟨some 9, .s (.call 15 [.t 8]), none⟩,
    ⟨some 3, .p (.mov (.t 9)), none⟩] [0, 3])
  (.seq (.ops [⟨some 10, .p (.mov (.t 0)), none⟩,
    ⟨some 11, .s (.call 16 [.t 10]), none⟩,
    ⟨some 4, .p (.mov (.t 11)), none⟩] [3, 4])
  (.seq (.ops [⟨some 12, .p (.mov (.t 3)), none⟩,
    ⟨some 13, .p (.mov (.t 4)), none⟩,
    ⟨some 14, .p (.eqB (.t 12) (.t 13) false), none⟩,
    ⟨some 2, .p (.mov (.t 14)), none⟩] [2])
  (.ret))))
def c_law7_RefsNames : VCode := .seq (.ops [⟨some 2, .p (.mov (.c (.bool false))), none⟩] [0])
  c_law7_RefsNames_k1
def r_law7_RefsNames : List VR := [.tmp 2]
theorem t_law7_RefsNames : Tryd.f3.body.bind (trC Tryd.prog Tryd.f3.ntmps) = some (er c_law7_RefsNames) := by kernel_rfl
theorem w_law7_RefsNames : trR Tryd.prog Tryd.f3.results.toList = some r_law7_RefsNames := by kernel_rfl
theorem u_law7_RefsNames_k1_e {P : Program} {Q : VEx → Env → List Ob → Prop} {e : Env} {H : List Ob} : vwp P c_law7_RefsNames_k1 Q e H = vwp P (.seq (.seq (.ops [⟨some 5, .p (.mov (.t 0)), none⟩,
    ⟨some 6, .p (.lenS (.t 5)), none⟩,
    ⟨some 7, .p (.bin 3 .gtr (.t 6) (.c (.int .i64 ((100000 : Nat) : Int)))), none⟩] [0, 7])
  (.cond (.t 7)
  (.seq (.ops [⟨some 2, .p (.mov (.c (.bool true))), none⟩] [2])
    (.ret))
  (.skip)))
  (.seq (.ops [⟨some 8, .p (.mov (.t 0)), none⟩,
    ⟨some 9, .s (.call 15 [.t 8]), none⟩,
    ⟨some 3, .p (.mov (.t 9)), none⟩] [0, 3])
  (.seq (.ops [⟨some 10, .p (.mov (.t 0)), none⟩,
    ⟨some 11, .s (.call 16 [.t 10]), none⟩,
    ⟨some 4, .p (.mov (.t 11)), none⟩] [3, 4])
  (.seq (.ops [⟨some 12, .p (.mov (.t 3)), none⟩,
    ⟨some 13, .p (.mov (.t 4)), none⟩,
    ⟨some 14, .p (.eqB (.t 12) (.t 13) false), none⟩,
    ⟨some 2, .p (.mov (.t 14)), none⟩] [2])
  (.ret))))) Q e H := by_refl rfl
theorem u_law7_RefsNames_e {P : Program} {Q : VEx → Env → List Ob → Prop} {e : Env} {H : List Ob} : vwp P c_law7_RefsNames Q e H = vwp P (.seq (.ops [⟨some 2, .p (.mov (.c (.bool false))), none⟩] [0])
  c_law7_RefsNames_k1) Q e H := by_refl rfl
theorem u_law7_RefsNames_r {K : TV → Prop} {e : Env} {H : List Ob} : res r_law7_RefsNames e H K = res [.tmp 2] e H K := by_refl rfl
def u_law7_RefsNames := (And.intro (And.intro @u_law7_RefsNames_k1_e @u_law7_RefsNames_e) @u_law7_RefsNames_r)
theorem go_law7_RefsNames {args : List TV} {H : List Ob} {R : TV → List Ob → Prop} (hn : args.length ≤ 15) (h : vwp Tryd.prog c_law7_RefsNames (atEnd r_law7_RefsNames R) (argsE 0 args) H) : VCalls Tryd.prog 3 args H R := vcalls_of Tryd.func3 t_law7_RefsNames w_law7_RefsNames hn h

/-! strings.ContainsFunc -/
def c_strings_ContainsFunc : VCode := .seq (.ops [⟨some 4, .p (.mov (.c (.bool false))), none⟩] [0, 1])
  (.seq (.ops [⟨some 5, .p (.mov (.t 0)), none⟩,
    ⟨some 6, .p (.mov (.t 1)), none⟩,
    ⟨some 7, .s (.call 107 [.t 5, .t 6]), none⟩,
    ⟨some 8, .p (.bin 3 .geq (.t 7) (.c (.int .i64 ((0 : Nat) : Int)))), none⟩,
    ⟨some 4, .p (.mov (.t 8)), none⟩] [4])
  (.ret))
def r_strings_ContainsFunc : List VR := [.tmp 4]
theorem t_strings_ContainsFunc : Tryd.f50.body.bind (trC Tryd.prog Tryd.f50.ntmps) = some (er c_strings_ContainsFunc) := by kernel_rfl
theorem w_strings_ContainsFunc : trR Tryd.prog Tryd.f50.results.toList = some r_strings_ContainsFunc := by kernel_rfl
theorem u_strings_ContainsFunc_e {P : Program} {Q : VEx → Env → List Ob → Prop} {e : Env} {H : List Ob} : vwp P c_strings_ContainsFunc Q e H = vwp P (.seq (.ops [⟨some 4, .p (.mov (.c (.bool false))), none⟩] [0, 1])
  (.seq (.ops [⟨some 5, .p (.mov (.t 0)), none⟩,
    ⟨some 6, .p (.mov (.t 1)), none⟩,
    ⟨some 7, .s (.call 107 [.t 5, .t 6]), none⟩,
    ⟨some 8, .p (.bin 3 .geq (.t 7) (.c (.int .i64 ((0 : Nat) : Int)))), none⟩,
    ⟨some 4, .p (.mov (.t 8)), none⟩] [4])
  (.ret))) Q e H := by_refl rfl
theorem u_strings_ContainsFunc_r {K : TV → Prop} {e : Env} {H : List Ob} : res r_strings_ContainsFunc e H K = res [.tmp 4] e H K := by_refl rfl
def u_strings_ContainsFunc := (And.intro @u_strings_ContainsFunc_e @u_strings_ContainsFunc_r)
theorem go_strings_ContainsFunc {args : List TV} {H : List Ob} {R : TV → List Ob → Prop} (hn : args.length ≤ 9) (h : vwp Tryd.prog c_strings_ContainsFunc (atEnd r_strings_ContainsFunc R) (argsE 0 args) H) : VCalls Tryd.prog 50 args H R := vcalls_of Tryd.func50 t_strings_ContainsFunc w_strings_ContainsFunc hn h

/-! strings.IndexFunc -/
def c_strings_IndexFunc : VCode := .seq (.ops [⟨some 4, .p (.mov (.c (.int .i64 ((0 : Nat) : Int)))), none⟩] [0, 1])
  (.seq (.ops [⟨some 5, .p (.mov (.t 0)), none⟩,
    ⟨some 6, .p (.mov (.t 1)), none⟩,
    ⟨some 7, .s (.call 167 [.t 5, .t 6, .c (.bool true)]), none⟩,
    ⟨some 4, .p (.mov (.t 7)), none⟩] [4])
  (.ret))
def r_strings_IndexFunc : List VR := [.tmp 4]
theorem t_strings_IndexFunc : Tryd.f107.body.bind (trC Tryd.prog Tryd.f107.ntmps) = some (er c_strings_IndexFunc) := by kernel_rfl
theorem w_strings_IndexFunc : trR Tryd.prog Tryd.f107.results.toList = some r_strings_IndexFunc := by kernel_rfl
theorem u_strings_IndexFunc_e {P : Program} {Q : VEx → Env → List Ob → Prop} {e : Env} {H : List Ob} : vwp P c_strings_IndexFunc Q e H = vwp P (.seq (.ops [⟨some 4, .p (.mov (.c (.int .i64 ((0 : Nat) : Int)))), none⟩] [0, 1])
  (.seq (.ops [⟨some 5, .p (.mov (.t 0)), none⟩,
    ⟨some 6, .p (.mov (.t 1)), none⟩,
    ⟨some 7, .s (.call 167 [.t 5, .t 6, .c (.bool true)]), none⟩,
    ⟨some 4, .p (.mov (.t 7)), none⟩] [4])
  (.ret))) Q e H := by_refl rfl
theorem u_strings_IndexFunc_r {K : TV → Prop} {e : Env} {H : List Ob} : res r_strings_IndexFunc e H K = res [.tmp 4] e H K := by_refl rfl
def u_strings_IndexFunc := (And.intro @u_strings_IndexFunc_e @u_strings_IndexFunc_r)
theorem go_strings_IndexFunc {args : List TV} {H : List Ob} {R : TV → List Ob → Prop} (hn : args.length ≤ 8) (h : vwp Tryd.prog c_strings_IndexFunc (atEnd r_strings_IndexFunc R) (argsE 0 args) H) : VCalls Tryd.prog 107 args H R := vcalls_of Tryd.func107 t_strings_IndexFunc w_strings_IndexFunc hn h

/-! strings.indexFunc -/
def c_strings_indexFunc_L1 : VCode := .seq (.ops [⟨some 11, .s (.nxtS (.t 10)), none⟩,
    ⟨some 12, .p (.ext 0 (.t 11)), none⟩] [1, 2, 10, 11, 12])
  (.seq (.cond (.t 12)
  (.skip)
  (.exit 0))
  (.block 1 (.seq (.ops [⟨some 13, .p (.ext 1 (.t 11)), none⟩,
    ⟨some 14, .p (.ext 2 (.t 11)), none⟩,
    ⟨some 7, .p (.mov (.t 13)), none⟩,
    ⟨some 8, .p (.mov (.t 14)), none⟩] [1, 2, 7, 8, 10])
  (.seq (.ops [⟨some 15, .p (.mov (.t 1)), none⟩,
    ⟨some 16, .p (.mov (.t 8)), none⟩,
    ⟨some 17, .s (.callv (.t 15) [.t 16]), none⟩,
    ⟨some 18, .p (.mov (.t 2)), none⟩,
    ⟨some 19, .p (.eqB (.t 17) (.t 18) false), none⟩] [1, 2, 7, 10, 19])
  (.cond (.t 19)
  (.seq (.ops [⟨some 20, .p (.mov (.t 7)), none⟩,
      ⟨some 6, .p (.mov (.t 20)), none⟩] [6])
    (.ret))
  (.skip))))))
def c_strings_indexFunc_k2 : VCode := .block 0 (.loop [1, 2, 10] c_strings_indexFunc_L1)
def c_strings_indexFunc_k3 : VCode := .seq (.ops [⟨some 6, .p (.mov (.c (.int .i64 (-1)))), none⟩] [6])
  (.ret)
def c_strings_indexFunc_k4 : VCode := .seq (.seq (.ops [⟨some 9, .p (.mov (.t 0)), none⟩,
    ⟨some 10, .s (.rngS (.t 9)), none⟩] [1, 2, 10])
  c_strings_indexFunc_k2)
  c_strings_indexFunc_k3
def c_strings_indexFunc : VCode := .seq (.ops [⟨some 6, .p (.mov (.c (.int .i64 ((0 : Nat) : Int)))), none⟩] [0, 1, 2])
  c_strings_indexFunc_k4
def r_strings_indexFunc : List VR := [.tmp 6]
theorem t_strings_indexFunc : Tryd.f167.body.bind (trC Tryd.prog Tryd.f167.ntmps) = some (er c_strings_indexFunc) := by kernel_rfl
theorem w_strings_indexFunc : trR Tryd.prog Tryd.f167.results.toList = some r_strings_indexFunc := by kernel_rfl
theorem u_strings_indexFunc_L1_e {P : Program} {Q : VEx → Env → List Ob → Prop} {e : Env} {H : List Ob} : vwp P c_strings_indexFunc_L1 Q e H = vwp P (.seq (.ops [⟨some 11, .s (.nxtS (.t 10)), none⟩,
    ⟨some 12, .p (.ext 0 (.t 11)), none⟩] [1, 2, 10, 11, 12])
  (.seq (.cond (.t 12)
  (.skip)
  (.exit 0))
  (.block 1 (.seq (.ops [⟨some 13, .p (.ext 1 (.t 11)), none⟩,
    ⟨some 14, .p (.ext 2 (.t 11)), none⟩,
    ⟨some 7, .p (.mov (.t 13)), none⟩,
    ⟨some 8, .p (.mov (.t 14)), none⟩] [1, 2, 7, 8, 10])
  (.seq (.ops [⟨some 15, .p (.mov (.t 1)), none⟩,
    ⟨some 16, .p (.mov (.t 8)), none⟩,
    ⟨some 17, .s (.callv (.t 15) [.t 16]), none⟩,
    ⟨some 18, .p (.mov (.t 2)), none⟩,
    ⟨some 19, .p (.eqB (.t 17) (.t 18) false), none⟩] [1, 2, 7, 10, 19])
  (.cond (.t 19)
  (.seq (.ops [⟨some 20, .p (.mov (.t 7)), none⟩,
      ⟨some 6, .p (.mov (.t 20)), none⟩] [6])
    (.ret))
  (.skip))))))) Q e H := by_refl rfl
theorem u_strings_indexFunc_k2_e {P : Program} {Q : VEx → Env → List Ob → Prop} {e : Env} {H : List Ob} : vwp P c_strings_indexFunc_k2 Q e H = vwp P (.block 0 (.loop [1, 2, 10] c_strings_indexFunc_L1)) Q e H := by_refl rfl
theorem u_strings_indexFunc_k3_e {P : Program} {Q : VEx → Env → List Ob → Prop} {e : Env} {H : List Ob} : vwp P c_strings_indexFunc_k3 Q e H = vwp P (.seq (.ops [⟨some 6, .p (.mov (.c (.int .i64 (-1)))), none⟩] [6])
  (.ret)) Q e H := by_refl rfl
theorem u_strings_indexFunc_k4_e {P : Program} {Q : VEx → Env → List Ob → Prop} {e : Env} {H : List Ob} : vwp P c_strings_indexFunc_k4 Q e H = vwp P (.seq (.seq (.ops [⟨some 9, .p (.mov (.t 0)), none⟩,
    ⟨some 10, .s (.rngS (.t 9)), none⟩] [1, 2, 10])
  c_strings_indexFunc_k2)
  c_strings_indexFunc_k3) Q e H := by_refl rfl
theorem u_strings_indexFunc_e {P : Program} {Q : VEx → Env → List Ob → Prop} {e : Env} {H : List Ob} : vwp P c_strings_indexFunc Q e H = vwp P (.seq (.ops [⟨some 6, .p (.mov (.c (.int .i64 ((0 : Nat) : Int)))), none⟩] [0, 1, 2])
  c_strings_indexFunc_k4) Q e H := by_refl rfl
theorem u_strings_indexFunc_r {K : TV → Prop} {e : Env} {H : List Ob} : res r_strings_indexFunc e H K = res [.tmp 6] e H K := by_refl rfl
def u_strings_indexFunc := (And.intro (And.intro (And.intro @u_strings_indexFunc_L1_e @u_strings_indexFunc_k2_e) (And.intro @u_strings_indexFunc_k3_e @u_strings_indexFunc_k4_e)) (And.intro @u_strings_indexFunc_e @u_strings_indexFunc_r))
theorem go_strings_indexFunc {args : List TV} {H : List Ob} {R : TV → List Ob → Prop} (hn : args.length ≤ 21) (h : vwp Tryd.prog c_strings_indexFunc (atEnd r_strings_indexFunc R) (argsE 0 args) H) : VCalls Tryd.prog 167 args H R := vcalls_of Tryd.func167 t_strings_indexFunc w_strings_indexFunc hn h

end Go.Proofs.YtijidndhlgbjhaaDoor
