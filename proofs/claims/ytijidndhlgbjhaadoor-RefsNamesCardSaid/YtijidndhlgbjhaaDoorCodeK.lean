/- The code of some functions, as the machine of values has it: printed by vm.py out of the program; each is the program's own (t_..: by the kernel). -/
import Derived.Test.YtijidndhlgbjhaaDoorBaseC
import Derived.Test.YtijidndhlgbjhaaDoorProg
import Derived.KernelRfl
namespace Go.Proofs.YtijidndhlgbjhaaDoor
variable [Globs]
set_option linter.unusedSectionVars false
set_option linter.unusedVariables false
set_option linter.defProp false
set_option maxRecDepth 100000

/-! gitlike/stage.IsPath -/
def c_stage_IsPath_A1 : VCode := .ops [⟨some 3, .p (.mov (.t 9)), none⟩] [2, 3]
def c_stage_IsPath_F2 : VCode := .block 1 (.seq (.ops [⟨some 10, .p (.mov (.t 3)), none⟩,
    ⟨some 11, .s (.call 54 [.t 10]), none⟩,
    ⟨some 12, .p (.un .not (.t 11)), none⟩] [2, 12])
  (.cond (.t 12)
  (.seq (.ops [⟨none, .s (.store 1 (.t 2) (.c (.bool false))), none⟩] [])
    (.ret))
  (.skip)))
def c_stage_IsPath_k3 : VCode := .seq (.ops [⟨none, .s (.store 1 (.t 2) (.c (.bool true))), none⟩] [2])
  (.ret)
def c_stage_IsPath : VCode := .seq (.ops [⟨some 2, .s (.alloc (.val (.bool false))), none⟩] [0, 2])
  (.seq (.seq (.ops [⟨some 4, .p (.mov (.t 0)), none⟩,
    ⟨some 5, .p (.lenS (.t 4)), none⟩,
    ⟨some 6, .p (.bin 3 .gtr (.t 5) (.c (.int .i64 ((100 : Nat) : Int)))), none⟩] [0, 2, 6])
  (.cond (.t 6)
  (.seq (.ops [⟨none, .s (.store 1 (.t 2) (.c (.bool false))), none⟩] [2])
    (.ret))
  (.skip)))
  (.seq (.seq (.ops [⟨some 7, .p (.mov (.t 0)), none⟩,
    ⟨some 8, .s (.call 53 [.t 7, .c (.string (str [47]))]), none⟩] [2, 8])
  (.block 0 (.rfunc (.t 8) [9] c_stage_IsPath_A1 c_stage_IsPath_F2)))
  c_stage_IsPath_k3))
def r_stage_IsPath : List VR := [.cell 2 false 1]
theorem t_stage_IsPath : Tryd.f17.body.bind (trC Tryd.prog Tryd.f17.ntmps) = some (er c_stage_IsPath) := by kernel_rfl
theorem w_stage_IsPath : trR Tryd.prog Tryd.f17.results.toList = some r_stage_IsPath := by kernel_rfl
theorem u_stage_IsPath_A1_e {P : Program} {Q : VEx → Env → List Ob → Prop} {e : Env} {H : List Ob} : vwp P c_stage_IsPath_A1 Q e H = vwp P (.ops [⟨some 3, .p (.mov (.t 9)), none⟩] [2, 3]) Q e H := by_refl rfl
theorem u_stage_IsPath_F2_e {P : Program} {Q : VEx → Env → List Ob → Prop} {e : Env} {H : List Ob} : vwp P c_stage_IsPath_F2 Q e H = vwp P (.block 1 (.seq (.ops [⟨some 10, .p (.mov (.t 3)), none⟩,
    ⟨some 11, .s (.call 54 [.t 10]), none⟩,
    ⟨some 12, .p (.un .not (.t 11)), none⟩] [2, 12])
  (.cond (.t 12)
  (.seq (.ops [⟨none, .s (.store 1 (.t 2) (.c (.bool false))), none⟩] [])
    (.ret))
  (.skip)))) Q e H := by_refl rfl
theorem u_stage_IsPath_k3_e {P : Program} {Q : VEx → Env → List Ob → Prop} {e : Env} {H : List Ob} : vwp P c_stage_IsPath_k3 Q e H = vwp P (.seq (.ops [⟨none, .s (.store 1 (.t 2) (.c (.bool true))), none⟩] [2])
  (.ret)) Q e H := by_refl rfl
theorem u_stage_IsPath_e {P : Program} {Q : VEx → Env → List Ob → Prop} {e : Env} {H : List Ob} : vwp P c_stage_IsPath Q e H = vwp P (.seq (.ops [⟨some 2, .s (.alloc (.val (.bool false))), none⟩] [0, 2])
  (.seq (.seq (.ops [⟨some 4, .p (.mov (.t 0)), none⟩,
    ⟨some 5, .p (.lenS (.t 4)), none⟩,
    ⟨some 6, .p (.bin 3 .gtr (.t 5) (.c (.int .i64 ((100 : Nat) : Int)))), none⟩] [0, 2, 6])
  (.cond (.t 6)
  (.seq (.ops [⟨none, .s (.store 1 (.t 2) (.c (.bool false))), none⟩] [2])
    (.ret))
  (.skip)))
  (.seq (.seq (.ops [⟨some 7, .p (.mov (.t 0)), none⟩,
    ⟨some 8, .s (.call 53 [.t 7, .c (.string (str [47]))]), none⟩] [2, 8])
  (.block 0 (.rfunc (.t 8) [9] c_stage_IsPath_A1 c_stage_IsPath_F2)))
  c_stage_IsPath_k3))) Q e H := by_refl rfl
theorem u_stage_IsPath_r {K : TV → Prop} {e : Env} {H : List Ob} : res r_stage_IsPath e H K = res [.cell 2 false 1] e H K := by_refl rfl
def u_stage_IsPath := (And.intro (And.intro (And.intro @u_stage_IsPath_A1_e @u_stage_IsPath_F2_e) (And.intro @u_stage_IsPath_k3_e @u_stage_IsPath_e)) @u_stage_IsPath_r)
theorem go_stage_IsPath {args : List TV} {H : List Ob} {R : TV → List Ob → Prop} (hn : args.length ≤ 13) (h : vwp Tryd.prog c_stage_IsPath (atEnd r_stage_IsPath R) (argsE 0 args) H) : VCalls Tryd.prog 17 args H R := vcalls_of Tryd.func17 t_stage_IsPath w_stage_IsPath hn h

/-! gitlike/gitlikeref8.IsPath -/
def c_ref8_IsPath_k1 : VCode := .seq (.block 1 (.seq (.seq (.ops [⟨some 15, .p (.mov (.t 4)), none⟩,
    ⟨some 16, .p (.mov (.t 0)), none⟩,
    ⟨some 17, .p (.lenS (.t 16)), none⟩,
    ⟨some 18, .p (.bin 3 .lss (.t 15) (.t 17)), none⟩,
    ⟨some 19, .p (.mov (.t 18)), none⟩,
    ⟨some 20, .p (.mov (.t 0)), some ⟨19, true⟩⟩,
    ⟨some 21, .p (.mov (.t 4)), some ⟨19, true⟩⟩,
    ⟨some 22, .p (.idxS (.t 20) (.t 21)), some ⟨19, true⟩⟩,
    ⟨some 23, .p (.bin 5 .neq (.t 22) (.c (.int .u8 ((47 : Nat) : Int)))), some ⟨19, true⟩⟩,
    ⟨some 24, .p (.pick (.t 19) (.t 23) (.c (.bool false))), none⟩] [0, 3, 4, 24])
  (.cond (.t 24)
  (.exit 1)
  (.skip)))
  (.seq (.ops [⟨some 25, .p (.mov (.t 0)), none⟩,
    ⟨some 26, .p (.mov (.t 3)), none⟩,
    ⟨some 27, .p (.mov (.t 4)), none⟩,
    ⟨some 28, .p (.slS (.t 25) (some (.t 26)) (some (.t 27))), none⟩,
    ⟨some 29, .s (.call 55 [.t 28]), none⟩,
    ⟨some 5, .p (.mov (.t 29)), none⟩] [0, 4, 5])
  (.seq (.seq (.ops [⟨some 30, .p (.mov (.t 5)), none⟩,
    ⟨some 31, .p (.un .not (.t 30)), none⟩] [0, 4, 31])
  (.cond (.t 31)
  (.seq (.ops [⟨some 2, .p (.mov (.c (.bool false))), none⟩] [2])
    (.ret))
  (.skip)))
  (.ops [⟨some 32, .p (.mov (.t 4)), none⟩,
    ⟨some 33, .p (.bin 3 .add (.t 32) (.c (.int .i64 ((1 : Nat) : Int)))), none⟩,
    ⟨some 3, .p (.mov (.t 33)), none⟩] [0, 3, 4])))))
  (.ops [⟨some 13, .p (.mov (.t 4)), none⟩,
    ⟨some 14, .p (.bin 3 .add (.t 13) (.c (.int .i64 ((1 : Nat) : Int)))), none⟩,
    ⟨some 4, .p (.mov (.t 14)), none⟩] [0, 3, 4])
def c_ref8_IsPath_L2 : VCode := .seq (.seq (.ops [⟨some 9, .p (.mov (.t 4)), none⟩,
    ⟨some 10, .p (.mov (.t 0)), none⟩,
    ⟨some 11, .p (.lenS (.t 10)), none⟩,
    ⟨some 12, .p (.bin 3 .leq (.t 9) (.t 11)), none⟩] [0, 3, 4, 12])
  (.cond (.t 12)
  (.skip)
  (.exit 0)))
  c_ref8_IsPath_k1
def c_ref8_IsPath_k3 : VCode := .block 0 (.loop [0, 3, 4] c_ref8_IsPath_L2)
def c_ref8_IsPath_k4 : VCode := .seq (.ops [⟨some 2, .p (.mov (.c (.bool true))), none⟩] [2])
  (.ret)
def c_ref8_IsPath_k5 : VCode := .seq (.seq (.ops [⟨some 4, .p (.mov (.c (.int .i64 ((0 : Nat) : Int)))), none⟩] [0, 3, 4])
  c_ref8_IsPath_k3)
  c_ref8_IsPath_k4
def c_ref8_IsPath_k6 : VCode := .seq (.ops [⟨some 3, .p (.mov (.c (.int .i64 ((0 : Nat) : Int)))), none⟩] [0, 3])
  c_ref8_IsPath_k5
def c_ref8_IsPath_k7 : VCode := .seq (.seq (.ops [⟨some 6, .p (.mov (.t 0)), none⟩,
    ⟨some 7, .p (.lenS (.t 6)), none⟩,
    ⟨some 8, .p (.bin 3 .gtr (.t 7) (.c (.int .i64 ((100 : Nat) : Int)))), none⟩] [0, 8])
  (.cond (.t 8)
  (.seq (.ops [⟨some 2, .p (.mov (.c (.bool false))), none⟩] [2])
    (.ret))
  (.skip)))
  c_ref8_IsPath_k6
def c_ref8_IsPath : VCode := .seq (.ops [⟨some 2, .p (.mov (.c (.bool false))), none⟩] [0])
  c_ref8_IsPath_k7
def r_ref8_IsPath : List VR := [.tmp 2]
theorem t_ref8_IsPath : Tryd.f18.body.bind (trC Tryd.prog Tryd.f18.ntmps) = some (er c_ref8_IsPath) := by kernel_rfl
theorem w_ref8_IsPath : trR Tryd.prog Tryd.f18.results.toList = some r_ref8_IsPath := by kernel_rfl
theorem u_ref8_IsPath_k1_e {P : Program} {Q : VEx → Env → List Ob → Prop} {e : Env} {H : List Ob} : vwp P c_ref8_IsPath_k1 Q e H = vwp P (.seq (.block 1 (.seq (.seq (.ops [⟨some 15, .p (.mov (.t 4)), none⟩,
    ⟨some 16, .p (.mov (.t 0)), none⟩,
    ⟨some 17, .p (.lenS (.t 16)), none⟩,
    ⟨some 18, .p (.bin 3 .lss (.t 15) (.t 17)), none⟩,
    ⟨some 19, .p (.mov (.t 18)), none⟩,
    ⟨some 20, .p (.mov (.t 0)), some ⟨19, true⟩⟩,
    ⟨some 21, .p (.mov (.t 4)), some ⟨19, true⟩⟩,
    ⟨some 22, .p (.idxS (.t 20) (.t 21)), some ⟨19, true⟩⟩,
    ⟨some 23, .p (.bin 5 .neq (.t 22) (.c (.int .u8 ((47 : Nat) : Int)))), some ⟨19, true⟩⟩,
    ⟨some 24, .p (.pick (.t 19) (.t 23) (.c (.bool false))), none⟩] [0, 3, 4, 24])
  (.cond (.t 24)
  (.exit 1)
  (.skip)))
  (.seq (.ops [⟨some 25, .p (.mov (.t 0)), none⟩,
    ⟨some 26, .p (.mov (.t 3)), none⟩,
    ⟨some 27, .p (.mov (.t 4)), none⟩,
    ⟨some 28, .p (.slS (.t 25) (some (.t 26)) (some (.t 27))), none⟩,
    ⟨some 29, .s (.call 55 [.t 28]), none⟩,
    ⟨some 5, .p (.mov (.t 29)), none⟩] [0, 4, 5])
  (.seq (.seq (.ops [⟨some 30, .p (.mov (.t 5)), none⟩,
    ⟨some 31, .p (.un .not (.t 30)), none⟩] [0, 4, 31])
  (.cond (.t 31)
  (.seq (.ops [⟨some 2, .p (.mov (.c (.bool false))), none⟩] [2])
    (.ret))
  (.skip)))
  (.ops [⟨some 32, .p (.mov (.t 4)), none⟩,
    ⟨some 33, .p (.bin 3 .add (.t 32) (.c (.int .i64 ((1 : Nat) : Int)))), none⟩,
    ⟨some 3, .p (.mov (.t 33)), none⟩] [0, 3, 4])))))
  (.ops [⟨some 13, .p (.mov (.t 4)), none⟩,
    ⟨some 14, .p (.bin 3 .add (.t 13) (.c (.int .i64 ((1 : Nat) : Int)))), none⟩,
    ⟨some 4, .p (.mov (.t 14)), none⟩] [0, 3, 4])) Q e H := by_refl rfl
theorem u_ref8_IsPath_L2_e {P : Program} {Q : VEx → Env → List Ob → Prop} {e : Env} {H : List Ob} : vwp P c_ref8_IsPath_L2 Q e H = vwp P (.seq (.seq (.ops [⟨some 9, .p (.mov (.t 4)), none⟩,
    ⟨some 10, .p (.mov (.t 0)), none⟩,
    ⟨some 11, .p (.lenS (.t 10)), none⟩,
    ⟨some 12, .p (.bin 3 .leq (.t 9) (.t 11)), none⟩] [0, 3, 4, 12])
  (.cond (.t 12)
  (.skip)
  (.exit 0)))
  c_ref8_IsPath_k1) Q e H := by_refl rfl
theorem u_ref8_IsPath_k3_e {P : Program} {Q : VEx → Env → List Ob → Prop} {e : Env} {H : List Ob} : vwp P c_ref8_IsPath_k3 Q e H = vwp P (.block 0 (.loop [0, 3, 4] c_ref8_IsPath_L2)) Q e H := by_refl rfl
theorem u_ref8_IsPath_k4_e {P : Program} {Q : VEx → Env → List Ob → Prop} {e : Env} {H : List Ob} : vwp P c_ref8_IsPath_k4 Q e H = vwp P (.seq (.ops [⟨some 2, .p (.mov (.c (.bool true))), none⟩] [2])
  (.ret)) Q e H := by_refl rfl
theorem u_ref8_IsPath_k5_e {P : Program} {Q : VEx → Env → List Ob → Prop} {e : Env} {H : List Ob} : vwp P c_ref8_IsPath_k5 Q e H = vwp P (.seq (.seq (.ops [⟨some 4, .p (.mov (.c (.int .i64 ((0 : Nat) : Int)))), none⟩] [0, 3, 4])
  c_ref8_IsPath_k3)
  c_ref8_IsPath_k4) Q e H := by_refl rfl
theorem u_ref8_IsPath_k6_e {P : Program} {Q : VEx → Env → List Ob → Prop} {e : Env} {H : List Ob} : vwp P c_ref8_IsPath_k6 Q e H = vwp P (.seq (.ops [⟨some 3, .p (.mov (.c (.int .i64 ((0 : Nat) : Int)))), none⟩] [0, 3])
  c_ref8_IsPath_k5) Q e H := by_refl rfl
theorem u_ref8_IsPath_k7_e {P : Program} {Q : VEx → Env → List Ob → Prop} {e : Env} {H : List Ob} : vwp P c_ref8_IsPath_k7 Q e H = vwp P (.seq (.seq (.ops [⟨some 6, .p (.mov (.t 0)), none⟩,
    ⟨some 7, .p (.lenS (.t 6)), none⟩,
    ⟨some 8, .p (.bin 3 .gtr (.t 7) (.c (.int .i64 ((100 : Nat) : Int)))), none⟩] [0, 8])
  (.cond (.t 8)
  (.seq (.ops [⟨some 2, .p (.mov (.c (.bool false))), none⟩] [2])
    (.ret))
  (.skip)))
  c_ref8_IsPath_k6) Q e H := by_refl rfl
theorem u_ref8_IsPath_e {P : Program} {Q : VEx → Env → List Ob → Prop} {e : Env} {H : List Ob} : vwp P c_ref8_IsPath Q e H = vwp P (.seq (.ops [⟨some 2, .p (.mov (.c (.bool false))), none⟩] [0])
  c_ref8_IsPath_k7) Q e H := by_refl rfl
theorem u_ref8_IsPath_r {K : TV → Prop} {e : Env} {H : List Ob} : res r_ref8_IsPath e H K = res [.tmp 2] e H K := by_refl rfl
def u_ref8_IsPath := (And.intro (And.intro (And.intro (And.intro @u_ref8_IsPath_k1_e @u_ref8_IsPath_L2_e) (And.intro @u_ref8_IsPath_k3_e @u_ref8_IsPath_k4_e)) (And.intro (And.intro @u_ref8_IsPath_k5_e @u_ref8_IsPath_k6_e) (And.intro @u_ref8_IsPath_k7_e @u_ref8_IsPath_e))) @u_ref8_IsPath_r)
theorem go_ref8_IsPath {args : List TV} {H : List Ob} {R : TV → List Ob → Prop} (hn : args.length ≤ 34) (h : vwp Tryd.prog c_ref8_IsPath (atEnd r_ref8_IsPath R) (argsE 0 args) H) : VCalls Tryd.prog 18 args H R := vcalls_of Tryd.func18 t_ref8_IsPath w_ref8_IsPath hn h

/-! gitlike/object.IsName -/
def c_object_IsName_k1 : VCode := .seq (.seq (.ops [⟨some 3, .p (.mov (.t 0)), none⟩] [0, 3])
  (.block 0 (.seq (.seq (.ops [⟨some 5, .p (.bin 9 .eql (.t 3) (.c (.string (str [])))), none⟩,
    ⟨some 4, .p (.mov (.t 5)), none⟩] [0, 3, 4])
  (.cond (.t 4)
  (.skip)
  (.seq (.ops [⟨some 6, .p (.bin 9 .eql (.t 3) (.c (.string (str [46])))), none⟩,
      ⟨some 4, .p (.mov (.t 6)), none⟩] [0, 3, 4])
    (.cond (.t 4)
    (.skip)
    (.seq (.ops [⟨some 7, .p (.bin 9 .eql (.t 3) (.c (.string (str [46, 46])))), none⟩,
        ⟨some 4, .p (.mov (.t 7)), none⟩] [0, 3, 4])
      (.cond (.t 4)
      (.skip)
      (.ops [⟨some 8, .p (.bin 9 .eql (.t 3) (.c (.string (str [46, 103, 105, 116])))), none⟩,
          ⟨some 4, .p (.mov (.t 8)), none⟩] [0, 4])))))))
  (.cond (.t 4)
  (.seq (.ops [⟨some 2, .p (.mov (.c (.bool false))), none⟩] [2])
    (.ret))
  (.skip)))))
  (.seq (.ops [⟨some 9, .p (.mov (.t 0)), none⟩,
    ⟨some 10, .p (.lenS (.t 9)), none⟩,
    ⟨some 11, .p (.bin 3 .leq (.t 10) (.c (.int .i64 ((50 : Nat) : Int)))), none⟩,
    ⟨some 12, .p (.mov (.t 11)), none⟩,
    ⟨some 13, .p (.mov (.t 0)), some ⟨12, true⟩⟩,
    ⟨some 14, .s (.call 110 [.t 13, .c (.string (str [47, 0]))]), some ⟨12, true⟩⟩,
    ⟨some 15, .p (.un .not (.t 14)), some ⟨12, true⟩⟩,
    ⟨some 16, .p (.pick (.t 12) (.t 15) (.c (.bool false))), none⟩,
    ⟨some 2, .p (.mov (.t 16)), none⟩] [2])
  (.ret))
def c_object_IsName : VCode := .seq (.ops [⟨some 2, .p (.mov (.c (.bool false))), none⟩] [0])
  c_object_IsName_k1
def r_object_IsName : List VR := [.tmp 2]
theorem t_object_IsName : Tryd.f54.body.bind (trC Tryd.prog Tryd.f54.ntmps) = some (er c_object_IsName) := by kernel_rfl
theorem w_object_IsName : trR Tryd.prog Tryd.f54.results.toList = some r_object_IsName := by kernel_rfl
theorem u_object_IsName_k1_e {P : Program} {Q : VEx → Env → List Ob → Prop} {e : Env} {H : List Ob} : vwp P c_object_IsName_k1 Q e H = vwp P (.seq (.seq (.ops [⟨some 3, .p (.mov (.t 0)), none⟩] [0, 3])
  (.block 0 (.seq (.seq (.ops [⟨some 5, .p (.bin 9 .eql (.t 3) (.c (.string (str [])))), none⟩,
    ⟨some 4, .p (.mov (.t 5)), none⟩] [0, 3, 4])
  (.cond (.t 4)
  (.skip)
  (.seq (.ops [⟨some 6, .p (.bin 9 .eql (.t 3) (.c (.string (str [46])))), none⟩,
      ⟨some 4, .p (.mov (.t 6)), none⟩] [0, 3, 4])
    (.cond (.t 4)
    (.skip)
    (.seq (.ops [⟨some 7, .p (.bin 9 .eql (.t 3) (.c (.string (str [46, 46])))), none⟩,
        ⟨some 4, .p (.mov (.t 7)), none⟩] [0, 3, 4])
      (.cond (.t 4)
      (.skip)
      (.ops [⟨some 8, .p (.bin 9 .eql (.t 3) (.c (.string (str [46, 103, 105, 116])))), none⟩,
          ⟨some 4, .p (.mov (.t 8)), none⟩] [0, 4])))))))
  (.cond (.t 4)
  (.seq (.ops [⟨some 2, .p (.mov (.c (.bool false))), none⟩] [2])
    (.ret))
  (.skip)))))
  (.seq (.ops [⟨some 9, .p (.mov (.t 0)), none⟩,
    ⟨some 10, .p (.lenS (.t 9)), none⟩,
    ⟨some 11, .p (.bin 3 .leq (.t 10) (.c (.int .i64 ((50 : Nat) : Int)))), none⟩,
    ⟨some 12, .p (.mov (.t 11)), none⟩,
    ⟨some 13, .p (.mov (.t 0)), some ⟨12, true⟩⟩,
    ⟨some 14, .s (.call 110 [.t 13, .c (.string (str [47, 0]))]), some ⟨12, true⟩⟩,
    ⟨some 15, .p (.un .not (.t 14)), some ⟨12, true⟩⟩,
    ⟨some 16, .p (.pick (.t 12) (.t 15) (.c (.bool false))), none⟩,
    ⟨some 2, .p (.mov (.t 16)), none⟩] [2])
  (.ret))) Q e H := by_refl rfl
theorem u_object_IsName_e {P : Program} {Q : VEx → Env → List Ob → Prop} {e : Env} {H : List Ob} : vwp P c_object_IsName Q e H = vwp P (.seq (.ops [⟨some 2, .p (.mov (.c (.bool false))), none⟩] [0])
  c_object_IsName_k1) Q e H := by_refl rfl
theorem u_object_IsName_r {K : TV → Prop} {e : Env} {H : List Ob} : res r_object_IsName e H K = res [.tmp 2] e H K := by_refl rfl
def u_object_IsName := (And.intro (And.intro @u_object_IsName_k1_e @u_object_IsName_e) @u_object_IsName_r)
theorem go_object_IsName {args : List TV} {H : List Ob} {R : TV → List Ob → Prop} (hn : args.length ≤ 17) (h : vwp Tryd.prog c_object_IsName (atEnd r_object_IsName R) (argsE 0 args) H) : VCalls Tryd.prog 54 args H R := vcalls_of Tryd.func54 t_object_IsName w_object_IsName hn h

/-! gitlike/gitlikeref3.IsName -/
def c_ref3_IsName_k1 : VCode := .seq (.block 1 (.seq (.ops [⟨some 30, .p (.mov (.t 0)), none⟩,
    ⟨some 31, .p (.mov (.t 3)), none⟩,
    ⟨some 32, .p (.idxS (.t 30) (.t 31)), none⟩,
    ⟨some 33, .p (.bin 5 .eql (.t 32) (.c (.int .u8 ((0 : Nat) : Int)))), none⟩,
    ⟨some 34, .p (.mov (.t 33)), none⟩,
    ⟨some 35, .p (.mov (.t 0)), some ⟨34, false⟩⟩,
    ⟨some 36, .p (.mov (.t 3)), some ⟨34, false⟩⟩,
    ⟨some 37, .p (.idxS (.t 35) (.t 36)), some ⟨34, false⟩⟩,
    ⟨some 38, .p (.bin 5 .eql (.t 37) (.c (.int .u8 ((47 : Nat) : Int)))), some ⟨34, false⟩⟩,
    ⟨some 39, .p (.pick (.t 34) (.c (.bool true)) (.t 38)), none⟩] [0, 3, 39])
  (.cond (.t 39)
  (.seq (.ops [⟨some 2, .p (.mov (.c (.bool false))), none⟩] [2])
    (.ret))
  (.skip))))
  (.ops [⟨some 28, .p (.mov (.t 3)), none⟩,
    ⟨some 29, .p (.bin 3 .add (.t 28) (.c (.int .i64 ((1 : Nat) : Int)))), none⟩,
    ⟨some 3, .p (.mov (.t 29)), none⟩] [0, 3])
def c_ref3_IsName_L2 : VCode := .seq (.seq (.ops [⟨some 24, .p (.mov (.t 3)), none⟩,
    ⟨some 25, .p (.mov (.t 0)), none⟩,
    ⟨some 26, .p (.lenS (.t 25)), none⟩,
    ⟨some 27, .p (.bin 3 .lss (.t 24) (.t 26)), none⟩] [0, 3, 27])
  (.cond (.t 27)
  (.skip)
  (.exit 0)))
  c_ref3_IsName_k1
def c_ref3_IsName_k3 : VCode := .block 0 (.loop [0, 3] c_ref3_IsName_L2)
def c_ref3_IsName_k4 : VCode := .seq (.ops [⟨some 2, .p (.mov (.c (.bool true))), none⟩] [2])
  (.ret)
def c_ref3_IsName_k5 : VCode := .seq (.seq (.ops [⟨some 3, .p (.mov (.c (.int .i64 ((0 : Nat) : Int)))), none⟩] [0, 3])
  c_ref3_IsName_k3)
  c_ref3_IsName_k4
def c_ref3_IsName_k6 : VCode := .seq (.seq (.ops [⟨some 4, .p (.mov (.t 0)), none⟩,
    ⟨some 5, .p (.lenS (.t 4)), none⟩,
    ⟨some 6, .p (.bin 3 .lss (.t 5) (.c (.int .i64 ((1 : Nat) : Int)))), none⟩,
    ⟨some 7, .p (.mov (.t 6)), none⟩,
    ⟨some 8, .p (.mov (.t 0)), some ⟨7, false⟩⟩,
    ⟨some 9, .p (.lenS (.t 8)), some ⟨7, false⟩⟩,
    ⟨some 10, .p (.bin 3 .gtr (.t 9) (.c (.int .i64 ((50 : Nat) : Int)))), some ⟨7, false⟩⟩,
    ⟨some 11, .p (.pick (.t 7) (.c (.bool true)) (.t 10)), none⟩,
    ⟨some 12, .p (.mov (.t 11)), none⟩,
    ⟨some 13, .p (.mov (.t 0)), some ⟨12, false⟩⟩,
    ⟨some 14, .p (.bin 9 .eql (.t 13) (.c (.string (str [46])))), some ⟨12, false⟩⟩,
    ⟨some 15, .p (.pick (.t 12) (.c (.bool true)) (.t 14)), none⟩,
    ⟨some 16, .p (.mov (.t 15)), none⟩,
    ⟨some 17, .p (.mov (.t 0)), some ⟨16, false⟩⟩,
    ⟨some 18, .p (.bin 9 .eql (.t 17) (.c (.string (str [46, 46])))), some ⟨16, false⟩⟩,
    ⟨some 19, .p (.pick (.t 16) (.c (.bool true)) (.t 18)), none⟩,
    ⟨some 20, .p (.mov (.t 19)), none⟩,
    ⟨some 21, .p (.mov (.t 0)), some ⟨20, false⟩⟩,
    ⟨some 22, .p (.bin 9 .eql (.t 21) (.c (.string (str [46, 103, 105, 116])))), some ⟨20, false⟩⟩,
    ⟨some 23, .p (.pick (.t 20) (.c (.bool true)) (.t 22)), none⟩] [0, 23])
  (.cond (.t 23)
  (.seq (.ops [⟨some 2, .p (.mov (.c (.bool false))), none⟩] [2])
    (.ret))
  (.skip)))
  c_ref3_IsName_k5
def c_ref3_IsName : VCode := .seq (.ops [⟨some 2, .p (.mov (.c (.bool false))), none⟩] [0])
  c_ref3_IsName_k6
def r_ref3_IsName : List VR := [.tmp 2]
theorem t_ref3_IsName : Tryd.f55.body.bind (trC Tryd.prog Tryd.f55.ntmps) = some (er c_ref3_IsName) := by kernel_rfl
theorem w_ref3_IsName : trR Tryd.prog Tryd.f55.results.toList = some r_ref3_IsName := by kernel_rfl
theorem u_ref3_IsName_k1_e {P : Program} {Q : VEx → Env → List Ob → Prop} {e : Env} {H : List Ob} : vwp P c_ref3_IsName_k1 Q e H = vwp P (.seq (.block 1 (.seq (.ops [⟨some 30, .p (.mov (.t 0)), none⟩,
    ⟨some 31, .p (.mov (.t 3)), none⟩,
    ⟨some 32, .p (.idxS (.t 30) (.t 31)), none⟩,
    ⟨some 33, .p (.bin 5 .eql (.t 32) (.c (.int .u8 ((0 : Nat) : Int)))), none⟩,
    ⟨some 34, .p (.mov (.t 33)), none⟩,
    ⟨some 35, .p (.mov (.t 0)), some ⟨34, false⟩⟩,
    ⟨some 36, .p (.mov (.t 3)), some ⟨34, false⟩⟩,
    ⟨some 37, .p (.idxS (.t 35) (.t 36)), some ⟨34, false⟩⟩,
    ⟨some 38, .p (.bin 5 .eql (.t 37) (.c (.int .u8 ((47 : Nat) : Int)))), some ⟨34, false⟩⟩,
    ⟨some 39, .p (.pick (.t 34) (.c (.bool true)) (.t 38)), none⟩] [0, 3, 39])
  (.cond (.t 39)
  (.seq (.ops [⟨some 2, .p (.mov (.c (.bool false))), none⟩] [2])
    (.ret))
  (.skip))))
  (.ops [⟨some 28, .p (.mov (.t 3)), none⟩,
    ⟨some 29, .p (.bin 3 .add (.t 28) (.c (.int .i64 ((1 : Nat) : Int)))), none⟩,
    ⟨some 3, .p (.mov (.t 29)), none⟩] [0, 3])) Q e H := by_refl rfl
theorem u_ref3_IsName_L2_e {P : Program} {Q : VEx → Env → List Ob → Prop} {e : Env} {H : List Ob} : vwp P c_ref3_IsName_L2 Q e H = vwp P (.seq (.seq (.ops [⟨some 24, .p (.mov (.t 3)), none⟩,
    ⟨some 25, .p (.mov (.t 0)), none⟩,
    ⟨some 26, .p (.lenS (.t 25)), none⟩,
    ⟨some 27, .p (.bin 3 .lss (.t 24) (.t 26)), none⟩] [0, 3, 27])
  (.cond (.t 27)
  (.skip)
  (.exit 0)))
  c_ref3_IsName_k1) Q e H := by_refl rfl
theorem u_ref3_IsName_k3_e {P : Program} {Q : VEx → Env → List Ob → Prop} {e : Env} {H : List Ob} : vwp P c_ref3_IsName_k3 Q e H = vwp P (.block 0 (.loop [0, 3] c_ref3_IsName_L2)) Q e H := by_refl rfl
theorem u_ref3_IsName_k4_e {P : Program} {Q : VEx → Env → List Ob → Prop} {e : Env} {H : List Ob} : vwp P c_ref3_IsName_k4 Q e H = vwp P (.seq (.ops [⟨some 2, .p (.mov (.c (.bool true))), none⟩] [2])
  (.ret)) Q e H := by_refl rfl
theorem u_ref3_IsName_k5_e {P : Program} {Q : VEx → Env → List Ob → Prop} {e : Env} {H : List Ob} : vwp P c_ref3_IsName_k5 Q e H = vwp P (.seq (.seq (.ops [⟨some 3, .p (.mov (.c (.int .i64 ((0 : Nat) : Int)))), none⟩] [0, 3])
  c_ref3_IsName_k3)
  c_ref3_IsName_k4) Q e H := by_refl rfl
theorem u_ref3_IsName_k6_e {P : Program} {Q : VEx → Env → List Ob → Prop} {e : Env} {H : List Ob} : vwp P c_ref3_IsName_k6 Q e H = vwp P (.seq (.seq (.ops [⟨some 4, .p (.mov (.t 0)), none⟩,
    ⟨some 5, .p (.lenS (.t 4)), none⟩,
    ⟨some 6, .p (.bin 3 .lss (.t 5) (.c (.int .i64 ((1 : Nat) : Int)))), none⟩,
    ⟨some 7, .p (.mov (.t 6)), none⟩,
    ⟨some 8, .p (.mov (.t 0)), some ⟨7, false⟩⟩,
    ⟨some 9, .p (.lenS (.t 8)), some ⟨7, false⟩⟩,
    ⟨some 10, .p (.bin 3 .gtr (.t 9) (.c (.int .i64 ((50 : Nat) : Int)))), some ⟨7, false⟩⟩,
    ⟨some 11, .p (.pick (.t 7) (.c (.bool true)) (.t 10)), none⟩,
    ⟨some 12, .p (.mov (.t 11)), none⟩,
    ⟨some 13, .p (.mov (.t 0)), some ⟨12, false⟩⟩,
    ⟨some 14, .p (.bin 9 .eql (.t 13) (.c (.string (str [46])))), some ⟨12, false⟩⟩,
    ⟨some 15, .p (.pick (.t 12) (.c (.bool true)) (.t 14)), none⟩,
    ⟨some 16, .p (.mov (.t 15)), none⟩,
    ⟨some 17, .p (.mov (.t 0)), some ⟨16, false⟩⟩,
    ⟨some 18, .p (.bin 9 .eql (.t 17) (.c (.string (str [46, 46])))), some ⟨16, false⟩⟩,
    ⟨some 19, .p (.pick (.t 16) (.c (.bool true)) (.t 18)), none⟩,
    ⟨some 20, .p (.mov (.t 19)), none⟩,
    ⟨some 21, .p (.mov (.t 0)), some ⟨20, false⟩⟩,
    ⟨some 22, .p (.bin 9 .eql (.t 21) (.c (.string (str [46, 103, 105, 116])))), some ⟨20, false⟩⟩,
    ⟨some 23, .p (.pick (.t 20) (.c (.bool true)) (.t 22)), none⟩] [0, 23])
  (.cond (.t 23)
  (.seq (.ops [⟨some 2, .p (.mov (.c (.bool false))), none⟩] [2])
    (.ret))
  (.skip)))
  c_ref3_IsName_k5) Q e H := by_refl rfl
theorem u_ref3_IsName_e {P : Program} {Q : VEx → Env → List Ob → Prop} {e : Env} {H : List Ob} : vwp P c_ref3_IsName Q e H = vwp P (.seq (.ops [⟨some 2, .p (.mov (.c (.bool false))), none⟩] [0])
  c_ref3_IsName_k6) Q e H := by_refl rfl
theorem u_ref3_IsName_r {K : TV → Prop} {e : Env} {H : List Ob} : res r_ref3_IsName e H K = res [.tmp 2] e H K := by_refl rfl
def u_ref3_IsName := (And.intro (And.intro (And.intro @u_ref3_IsName_k1_e @u_ref3_IsName_L2_e) (And.intro @u_ref3_IsName_k3_e @u_ref3_IsName_k4_e)) (And.intro (And.intro @u_ref3_IsName_k5_e @u_ref3_IsName_k6_e) (And.intro @u_ref3_IsName_e @u_ref3_IsName_r)))
theorem go_ref3_IsName {args : List TV} {H : List Ob} {R : TV → List Ob → Prop} (hn : args.length ≤ 40) (h : vwp Tryd.prog c_ref3_IsName (atEnd r_ref3_IsName R) (argsE 0 args) H) : VCalls Tryd.prog 55 args H R := vcalls_of Tryd.func55 t_ref3_IsName w_ref3_IsName hn h

/-! gitlike/gitlikelaw8.StagePaths -/
def c_law8_StagePaths_k1 : VCode := .seq (.seq (.ops [⟨some 5, .p (.mov (.t 0)), none⟩,
    ⟨some 6, .p (.lenS (.t 5)), none⟩,
    ⟨some 7, .p (.bin 3 .gtr (.t 6) (.c (.int .i64 ((10000 : Nat) : Int)))), none⟩] [0, 7])
  (.cond (.t 7)
  (.seq (.ops [⟨some 2, .p (.mov (.c (.bool true))), none⟩] [2])
    (.ret))
  (.skip)))
  (.seq (.ops [⟨some 8, .p (.mov (.t 0)), none⟩,
    ⟨some 9, .s (.call 17 [.t 8]), none⟩,
    ⟨some 3, .p (.mov (.t 9)), none⟩] [0, 3])
  (.seq (.ops [⟨some 10, .p (.mov (.t 0)), none⟩,
    ⟨some 11, .s (.call 18 [.t 10]), none⟩,
    ⟨some 4, .p (.mov (.t 11)), none⟩] [3, 4])
  (.seq (.ops [⟨some 12, .p (.mov (.t 3)), none⟩,
    ⟨some 13, .p (.mov (.t 4)), none⟩,
    ⟨some 14, .p (.eqB (.t 12) (.t 13) false), none⟩,
    ⟨some 2, .p (.mov (.t 14)), none⟩] [2])
  (.ret))))
def c_law8_StagePaths : VCode := .seq (.ops [⟨some 2, .p (.mov (.c (.bool false))), none⟩] [0])
  c_law8_StagePaths_k1
def r_law8_StagePaths : List VR := [.tmp 2]
theorem t_law8_StagePaths : Tryd.f4.body.bind (trC Tryd.prog Tryd.f4.ntmps) = some (er c_law8_StagePaths) := by kernel_rfl
theorem w_law8_StagePaths : trR Tryd.prog Tryd.f4.results.toList = some r_law8_StagePaths := by kernel_rfl
theorem u_law8_StagePaths_k1_e {P : Program} {Q : VEx → Env → List Ob → Prop} {e : Env} {H : List Ob} : vwp P c_law8_StagePaths_k1 Q e H = vwp P (.seq (.seq (.ops [⟨some 5, .p (.mov (.t 0)), none⟩,
    ⟨some 6, .p (.lenS (.t 5)), none⟩,
    ⟨some 7, .p (.bin 3 .gtr (.t 6) (.c (.int .i64 ((10000 : Nat) : Int)))), none⟩] [0, 7])
  (.cond (.t 7)
  (.seq (.ops [⟨some 2, .p (.mov (.c (.bool true))), none⟩] [2])
    (.ret))
  (.skip)))
  (.seq (.ops [⟨some 8, .p (.mov (.t 0)), none⟩,
    ⟨some 9, .s (.call 17 [.t 8]), none⟩,
    ⟨some 3, .p (.mov (.t 9)), none⟩] [0, 3])
  (.seq (.ops [⟨some 10, .p (.mov (.t 0)), none⟩,
    ⟨some 11, .s (.call 18 [.t 10]), none⟩,
    ⟨some 4, .p (.mov (.t 11)), none⟩] [3, 4])
  (.seq (.ops [⟨some 12, .p (.mov (.t 3)), none⟩,
    ⟨some 13, .p (.mov (.t 4)), none⟩,
    ⟨some 14, .p (.eqB (.t 12) (.t 13) false), none⟩,
    ⟨some 2, .p (.mov (.t 14)), none⟩] [2])
  (.ret))))) Q e H := by_refl rfl
theorem u_law8_StagePaths_e {P : Program} {Q : VEx → Env → List Ob → Prop} {e : Env} {H : List Ob} : vwp P c_law8_StagePaths Q e H = vwp P (.seq (.ops [⟨some 2, .p (.mov (.c (.bool false))), none⟩] [0])
  c_law8_StagePaths_k1) Q e H := by_refl rfl
theorem u_law8_StagePaths_r {K : TV → Prop} {e : Env} {H : List Ob} : res r_law8_StagePaths e H K = res [.tmp 2] e H K := by_refl rfl
def u_law8_StagePaths := (And.intro (And.intro @u_law8_StagePaths_k1_e @u_law8_StagePaths_e) @u_law8_StagePaths_r)
theorem go_law8_StagePaths {args : List TV} {H : List Ob} {R : TV → List Ob → Prop} (hn : args.length ≤ 15) (h : vwp Tryd.prog c_law8_StagePaths (atEnd r_law8_StagePaths R) (argsE 0 args) H) : VCalls Tryd.prog 4 args H R := vcalls_of Tryd.func4 t_law8_StagePaths w_law8_StagePaths hn h

/-! strings.ContainsAny -/
def c_strings_ContainsAny : VCode := .seq (.ops [⟨some 4, .p (.mov (.c (.bool false))), none⟩] [0, 1])
  (.seq (.ops [⟨some 5, .p (.mov (.t 0)), none⟩,
    ⟨some 6, .p (.mov (.t 1)), none⟩,
    ⟨some 7, .s (.call 174 [.t 5, .t 6]), none⟩,
    ⟨some 8, .p (.bin 3 .geq (.t 7) (.c (.int .i64 ((0 : Nat) : Int)))), none⟩,
    ⟨some 4, .p (.mov (.t 8)), none⟩] [4])
  (.ret))
def r_strings_ContainsAny : List VR := [.tmp 4]
theorem t_strings_ContainsAny : Tryd.f110.body.bind (trC Tryd.prog Tryd.f110.ntmps) = some (er c_strings_ContainsAny) := by kernel_rfl
theorem w_strings_ContainsAny : trR Tryd.prog Tryd.f110.results.toList = some r_strings_ContainsAny := by kernel_rfl
theorem u_strings_ContainsAny_e {P : Program} {Q : VEx → Env → List Ob → Prop} {e : Env} {H : List Ob} : vwp P c_strings_ContainsAny Q e H = vwp P (.seq (.ops [⟨some 4, .p (.mov (.c (.bool false))), none⟩] [0, 1])
  (.seq (.ops [⟨some 5, .p (.mov (.t 0)), none⟩,
    ⟨some 6, .p (.mov (.t 1)), none⟩,
    ⟨some 7, .s (.call 174 [.t 5, .t 6]), none⟩,
    ⟨some 8, .p (.bin 3 .geq (.t 7) (.c (.int .i64 ((0 : Nat) : Int)))), none⟩,
    ⟨some 4, .p (.mov (.t 8)), none⟩] [4])
  (.ret))) Q e H := by_refl rfl
theorem u_strings_ContainsAny_r {K : TV → Prop} {e : Env} {H : List Ob} : res r_strings_ContainsAny e H K = res [.tmp 4] e H K := by_refl rfl
def u_strings_ContainsAny := (And.intro @u_strings_ContainsAny_e @u_strings_ContainsAny_r)
theorem go_strings_ContainsAny {args : List TV} {H : List Ob} {R : TV → List Ob → Prop} (hn : args.length ≤ 9) (h : vwp Tryd.prog c_strings_ContainsAny (atEnd r_strings_ContainsAny R) (argsE 0 args) H) : VCalls Tryd.prog 110 args H R := vcalls_of Tryd.func110 t_strings_ContainsAny w_strings_ContainsAny hn h

/-! strings.SplitSeq -/
def c_strings_SplitSeq : VCode := .seq (.ops [⟨some 4, .p (.mov (.c .nilFunc)), none⟩] [0, 1])
  (.seq (.ops [⟨some 5, .p (.mov (.t 0)), none⟩,
    ⟨some 6, .p (.mov (.t 1)), none⟩,
    ⟨some 7, .s (.call 109 [.t 5, .t 6, .c (.int .i64 ((0 : Nat) : Int))]), none⟩,
    ⟨some 4, .p (.mov (.t 7)), none⟩] [4])
  (.ret))
def r_strings_SplitSeq : List VR := [.tmp 4]
theorem t_strings_SplitSeq : Tryd.f53.body.bind (trC Tryd.prog Tryd.f53.ntmps) = some (er c_strings_SplitSeq) := by kernel_rfl
theorem w_strings_SplitSeq : trR Tryd.prog Tryd.f53.results.toList = some r_strings_SplitSeq := by kernel_rfl
theorem u_strings_SplitSeq_e {P : Program} {Q : VEx → Env → List Ob → Prop} {e : Env} {H : List Ob} : vwp P c_strings_SplitSeq Q e H = vwp P (.seq (.ops [⟨some 4, .p (.mov (.c .nilFunc)), none⟩] [0, 1])
  (.seq (.ops [⟨some 5, .p (.mov (.t 0)), none⟩,
    ⟨some 6, .p (.mov (.t 1)), none⟩,
    ⟨some 7, .s (.call 109 [.t 5, .t 6, .c (.int .i64 ((0 : Nat) : Int))]), none⟩,
    ⟨some 4, .p (.mov (.t 7)), none⟩] [4])
  (.ret))) Q e H := by_refl rfl
theorem u_strings_SplitSeq_r {K : TV → Prop} {e : Env} {H : List Ob} : res r_strings_SplitSeq e H K = res [.tmp 4] e H K := by_refl rfl
def u_strings_SplitSeq := (And.intro @u_strings_SplitSeq_e @u_strings_SplitSeq_r)
theorem go_strings_SplitSeq {args : List TV} {H : List Ob} {R : TV → List Ob → Prop} (hn : args.length ≤ 8) (h : vwp Tryd.prog c_strings_SplitSeq (atEnd r_strings_SplitSeq R) (argsE 0 args) H) : VCalls Tryd.prog 53 args H R := vcalls_of Tryd.func53 t_strings_SplitSeq w_strings_SplitSeq hn h

/-! strings.splitSeq -/
def c_strings_splitSeq : VCode := .seq (.ops [⟨some 3, .s (.box (.t 0)), none⟩,
    ⟨some 4, .s (.box (.t 1)), none⟩,
    ⟨some 5, .s (.box (.t 2)), none⟩,
    ⟨some 6, .p (.mov (.c .nilFunc)), none⟩] [3, 4, 5])
  (.seq (.ops [⟨some 7, .p (.mkf (.func 172) [] [.t 4, .t 3, .t 5]), none⟩,
    ⟨some 6, .p (.mov (.t 7)), none⟩] [6])
  (.ret))
def r_strings_splitSeq : List VR := [.tmp 6]
theorem t_strings_splitSeq : Tryd.f109.body.bind (trC Tryd.prog Tryd.f109.ntmps) = some (er c_strings_splitSeq) := by kernel_rfl
theorem w_strings_splitSeq : trR Tryd.prog Tryd.f109.results.toList = some r_strings_splitSeq := by kernel_rfl
theorem u_strings_splitSeq_e {P : Program} {Q : VEx → Env → List Ob → Prop} {e : Env} {H : List Ob} : vwp P c_strings_splitSeq Q e H = vwp P (.seq (.ops [⟨some 3, .s (.box (.t 0)), none⟩,
    ⟨some 4, .s (.box (.t 1)), none⟩,
    ⟨some 5, .s (.box (.t 2)), none⟩,
    ⟨some 6, .p (.mov (.c .nilFunc)), none⟩] [3, 4, 5])
  (.seq (.ops [⟨some 7, .p (.mkf (.func 172) [] [.t 4, .t 3, .t 5]), none⟩,
    ⟨some 6, .p (.mov (.t 7)), none⟩] [6])
  (.ret))) Q e H := by_refl rfl
theorem u_strings_splitSeq_r {K : TV → Prop} {e : Env} {H : List Ob} : res r_strings_splitSeq e H K = res [.tmp 6] e H K := by_refl rfl
def u_strings_splitSeq := (And.intro @u_strings_splitSeq_e @u_strings_splitSeq_r)
theorem go_strings_splitSeq {args : List TV} {H : List Ob} {R : TV → List Ob → Prop} (hn : args.length ≤ 8) (h : vwp Tryd.prog c_strings_splitSeq (atEnd r_strings_splitSeq R) (argsE 0 args) H) : VCalls Tryd.prog 109 args H R := vcalls_of Tryd.func109 t_strings_splitSeq w_strings_splitSeq hn h

/-! strings.splitSeq$1 -/
def c_strings_splitSeq_1_k1 : VCode := .block 1 (.seq (.ops [⟨some 16, .p (.load false 1 (.t 2)), none⟩,
    ⟨some 17, .s (.call 173 [.t 16]), none⟩,
    ⟨some 15, .p (.mov (.t 17)), none⟩,
    ⟨some 18, .p (.ext 0 (.t 15)), none⟩,
    ⟨some 19, .p (.ext 1 (.t 15)), none⟩,
    ⟨some 5, .p (.mov (.t 18)), none⟩,
    ⟨some 6, .p (.mov (.t 19)), none⟩] [0, 2, 6])
  (.seq (.seq (.ops [⟨some 20, .p (.mov (.t 0)), none⟩,
    ⟨some 21, .p (.load false 1 (.t 2)), none⟩,
    ⟨some 22, .p (.mov (.t 6)), none⟩,
    ⟨some 23, .p (.slS (.t 21) none (some (.t 22))), none⟩,
    ⟨some 24, .s (.callv (.t 20) [.t 23]), none⟩,
    ⟨some 25, .p (.un .not (.t 24)), none⟩] [0, 2, 6, 25])
  (.cond (.t 25)
  (.ret)
  (.skip)))
  (.ops [⟨some 26, .p (.load false 1 (.t 2)), none⟩,
    ⟨some 27, .p (.mov (.t 6)), none⟩,
    ⟨some 28, .p (.slS (.t 26) (some (.t 27)) none), none⟩,
    ⟨none, .s (.store 1 (.t 2) (.t 28)), none⟩] [0, 2])))
def c_strings_splitSeq_1_L2 : VCode := .seq (.seq (.ops [⟨some 12, .p (.load false 1 (.t 2)), none⟩,
    ⟨some 13, .p (.lenS (.t 12)), none⟩,
    ⟨some 14, .p (.bin 3 .gtr (.t 13) (.c (.int .i64 ((0 : Nat) : Int)))), none⟩] [0, 2, 14])
  (.cond (.t 14)
  (.skip)
  (.exit 0)))
  c_strings_splitSeq_1_k1
def c_strings_splitSeq_1_k3 : VCode := .ret
def c_strings_splitSeq_1_b4 : VCode := .seq (.block 0 (.loop [0, 2] c_strings_splitSeq_1_L2))
  c_strings_splitSeq_1_k3
def c_strings_splitSeq_1_k5 : VCode := .cond (.t 11)
  c_strings_splitSeq_1_b4
  (.skip)
def c_strings_splitSeq_1_k6 : VCode := .seq (.ops [⟨some 34, .p (.load false 1 (.t 2)), none⟩,
    ⟨some 35, .p (.mov (.t 7)), none⟩,
    ⟨some 36, .p (.load false 1 (.t 3)), none⟩,
    ⟨some 37, .p (.bin 3 .add (.t 35) (.t 36)), none⟩,
    ⟨some 38, .p (.slS (.t 34) none (some (.t 37))), none⟩,
    ⟨some 8, .p (.mov (.t 38)), none⟩] [0, 1, 2, 3, 7, 8])
  (.seq (.seq (.ops [⟨some 39, .p (.mov (.t 0)), none⟩,
    ⟨some 40, .p (.mov (.t 8)), none⟩,
    ⟨some 41, .s (.callv (.t 39) [.t 40]), none⟩,
    ⟨some 42, .p (.un .not (.t 41)), none⟩] [0, 1, 2, 3, 7, 42])
  (.cond (.t 42)
  (.ret)
  (.skip)))
  (.ops [⟨some 43, .p (.load false 1 (.t 2)), none⟩,
    ⟨some 44, .p (.mov (.t 7)), none⟩,
    ⟨some 45, .p (.load false 1 (.t 1)), none⟩,
    ⟨some 46, .p (.lenS (.t 45)), none⟩,
    ⟨some 47, .p (.bin 3 .add (.t 44) (.t 46)), none⟩,
    ⟨some 48, .p (.slS (.t 43) (some (.t 47)) none), none⟩,
    ⟨none, .s (.store 1 (.t 2) (.t 48)), none⟩] [0, 1, 2, 3]))
def c_strings_splitSeq_1_k7 : VCode := .seq (.seq (.ops [⟨some 32, .p (.mov (.t 7)), none⟩,
    ⟨some 33, .p (.bin 3 .lss (.t 32) (.c (.int .i64 ((0 : Nat) : Int)))), none⟩] [0, 1, 2, 3, 7, 33])
  (.cond (.t 33)
  (.exit 2)
  (.skip)))
  c_strings_splitSeq_1_k6
def c_strings_splitSeq_1_L8 : VCode := .block 3 (.seq (.ops [⟨some 29, .p (.load false 1 (.t 2)), none⟩,
    ⟨some 30, .p (.load false 1 (.t 1)), none⟩,
    ⟨some 31, .s (.call 106 [.t 29, .t 30]), none⟩,
    ⟨some 7, .p (.mov (.t 31)), none⟩] [0, 1, 2, 3, 7])
  c_strings_splitSeq_1_k7)
def c_strings_splitSeq_1_k9 : VCode := .ops [⟨some 49, .p (.mov (.t 0)), none⟩,
    ⟨some 50, .p (.load false 1 (.t 2)), none⟩,
    ⟨some 51, .s (.callv (.t 49) [.t 50]), none⟩] []
def c_strings_splitSeq_1_k10 : VCode := .seq (.block 2 (.loop [0, 1, 2, 3] c_strings_splitSeq_1_L8))
  c_strings_splitSeq_1_k9
def c_strings_splitSeq_1 : VCode := .seq (.seq (.ops [⟨some 9, .p (.load false 1 (.t 1)), none⟩,
    ⟨some 10, .p (.lenS (.t 9)), none⟩,
    ⟨some 11, .p (.bin 3 .eql (.t 10) (.c (.int .i64 ((0 : Nat) : Int)))), none⟩] [0, 1, 2, 3, 11])
  c_strings_splitSeq_1_k5)
  c_strings_splitSeq_1_k10
def r_strings_splitSeq_1 : List VR := []
theorem t_strings_splitSeq_1 : Tryd.f172.body.bind (trC Tryd.prog Tryd.f172.ntmps) = some (er c_strings_splitSeq_1) := by kernel_rfl
theorem w_strings_splitSeq_1 : trR Tryd.prog Tryd.f172.results.toList = some r_strings_splitSeq_1 := by kernel_rfl
theorem u_strings_splitSeq_1_k1_e {P : Program} {Q : VEx → Env → List Ob → Prop} {e : Env} {H : List Ob} : vwp P c_strings_splitSeq_1_k1 Q e H = vwp P (.block 1 (.seq (.ops [⟨some 16, .p (.load false 1 (.t 2)), none⟩,
    ⟨some 17, .s (.call 173 [.t 16]), none⟩,
    ⟨some 15, .p (.mov (.t 17)), none⟩,
    ⟨some 18, .p (.ext 0 (.t 15)), none⟩,
    ⟨some 19, .p (.ext 1 (.t 15)), none⟩,
    ⟨some 5, .p (.mov (.t 18)), none⟩,
    ⟨some 6, .p (.mov (.t 19)), none⟩] [0, 2, 6])
  (.seq (.seq (.ops [⟨some 20, .p (.mov (.t 0)), none⟩,
    ⟨some 21, .p (.load false 1 (.t 2)), none⟩,
    ⟨some 22, .p (.mov (.t 6)), none⟩,
    ⟨some 23, .p (.slS (.t 21) none (some (.t 22))), none⟩,
    ⟨some 24, .s (.callv (.t 20) [.t 23]), none⟩,
    ⟨some 25, .p (.un .not (.t 24)), none⟩] [0, 2, 6, 25])
  (.cond (.t 25)
  (.ret)
  (.skip)))
  (.ops [⟨some 26, .p (.load false 1 (.t 2)), none⟩,
    ⟨some 27, .p (.mov (.t 6)), none⟩,
    ⟨some 28, .p (.slS (.t 26) (some (.t 27)) none), none⟩,
    ⟨none, .s (.store 1 (.t 2) (.t 28)), none⟩] [0, 2])))) Q e H := by_refl rfl
theorem u_strings_splitSeq_1_L2_e {P : Program} {Q : VEx → Env → List Ob → Prop} {e : Env} {H : List Ob} : vwp P c_strings_splitSeq_1_L2 Q e H = vwp P (.seq (.seq (.ops [⟨some 12, .p (.load false 1 (.t 2)), none⟩,
    ⟨some 13, .p (.lenS (.t 12)), none⟩,
    ⟨some 14, .p (.bin 3 .gtr (.t 13) (.c (.int .i64 ((0 : Nat) : Int)))), none⟩] [0, 2, 14])
  (.cond (.t 14)
  (.skip)
  (.exit 0)))
  c_strings_splitSeq_1_k1) Q e H := by_refl rfl
theorem u_strings_splitSeq_1_k3_e {P : Program} {Q : VEx → Env → List Ob → Prop} {e : Env} {H : List Ob} : vwp P c_strings_splitSeq_1_k3 Q e H = vwp P (.ret) Q e H := by_refl rfl
theorem u_strings_splitSeq_1_b4_e {P : Program} {Q : VEx → Env → List Ob → Prop} {e : Env} {H : List Ob} : vwp P c_strings_splitSeq_1_b4 Q e H = vwp P (.seq (.block 0 (.loop [0, 2] c_strings_splitSeq_1_L2))
  c_strings_splitSeq_1_k3) Q e H := by_refl rfl
theorem u_strings_splitSeq_1_k5_e {P : Program} {Q : VEx → Env → List Ob → Prop} {e : Env} {H : List Ob} : vwp P c_strings_splitSeq_1_k5 Q e H = vwp P (.cond (.t 11)
  c_strings_splitSeq_1_b4
  (.skip)) Q e H := by_refl rfl
theorem u_strings_splitSeq_1_k6_e {P : Program} {Q : VEx → Env → List Ob → Prop} {e : Env} {H : List Ob} : vwp P c_strings_splitSeq_1_k6 Q e H = vwp P (.seq (.ops [⟨some 34, .p (.load false 1 (.t 2)), none⟩,
    ⟨some 35, .p (.mov (.t 7)), none⟩,
    ⟨some 36, .p (.load false 1 (.t 3)), none⟩,
    ⟨some 37, .p (.bin 3 .add (.t 35) (.t 36)), none⟩,
    ⟨some 38, .p (.slS (.t 34) none (some (.t 37))), none⟩,
    ⟨some 8, .p (.mov (.t 38)), none⟩] [0, 1, 2, 3, 7, 8])
  (.seq (.seq (.ops [⟨some 39, .p (.mov (.t 0)), none⟩,
    ⟨some 40, .p (.mov (.t 8)), none⟩,
    ⟨some 41, .s (.callv (.t 39) [.t 40]), none⟩,
    ⟨some 42, .p (.un .not (.t 41)), none⟩] [0, 1, 2, 3, 7, 42])
  (.cond (.t 42)
  (.ret)
  (.skip)))
  (.ops [⟨some 43, .p (.load false 1 (.t 2)), none⟩,
    ⟨some 44, .p (.mov (.t 7)), none⟩,
    ⟨some 45, .p (.load false 1 (.t 1)), none⟩,
    ⟨some 46, .p (.lenS (.t 45)), none⟩,
    ⟨some 47, .p (.bin 3 .add (.t 44) (.t 46)), none⟩,
    ⟨some 48, .p (.slS (.t 43) (some (.t 47)) none), none⟩,
    ⟨none, .s (.store 1 (.t 2) (.t 48)), none⟩] [0, 1, 2, 3]))) Q e H := by_refl rfl
theorem u_strings_splitSeq_1_k7_e {P : Program} {Q : VEx → Env → List Ob → Prop} {e : Env} {H : List Ob} : vwp P c_strings_splitSeq_1_k7 Q e H = vwp P (.seq (.seq (.ops [⟨some 32, .p (.mov (.t 7)), none⟩,
    ⟨some 33, .p (.bin 3 .lss (.t 32) (.c (.int .i64 ((0 : Nat) : Int)))), none⟩] [0, 1, 2, 3, 7, 33])
  (.cond (.t 33)
  (.exit 2)
  (.skip)))
  c_strings_splitSeq_1_k6) Q e H := by_refl rfl
theorem u_strings_splitSeq_1_L8_e {P : Program} {Q : VEx → Env → List Ob → Prop} {e : Env} {H : List Ob} : vwp P c_strings_splitSeq_1_L8 Q e H = vwp P (.block 3 (.seq (.ops [⟨some 29, .p (.load false 1 (.t 2)), none⟩,
    ⟨some 30, .p (.load false 1 (.t 1)), none⟩,
    ⟨some 31, .s (.call 106 [.t 29, .t 30]), none⟩,
    ⟨some 7, .p (.mov (.t 31)), none⟩] [0, 1, 2, 3, 7])
  c_strings_splitSeq_1_k7)) Q e H := by_refl rfl
theorem u_strings_splitSeq_1_k9_e {P : Program} {Q : VEx → Env → List Ob → Prop} {e : Env} {H : List Ob} : vwp P c_strings_splitSeq_1_k9 Q e H = vwp P (.ops [⟨some 49, .p (.mov (.t 0)), none⟩,
    ⟨some 50, .p (.load false 1 (.t 2)), none⟩,
    ⟨some 51, .s (.callv (.t 49) [.t 50]), none⟩] []) Q e H := by_refl rfl
theorem u_strings_splitSeq_1_k10_e {P : Program} {Q : VEx → Env → List Ob → Prop} {e : Env} {H : List Ob} : vwp P c_strings_splitSeq_1_k10 Q e H = vwp P (.seq (.block 2 (.loop [0, 1, 2, 3] c_strings_splitSeq_1_L8))
  c_strings_splitSeq_1_k9) Q e H := by_refl rfl
theorem u_strings_splitSeq_1_e {P : Program} {Q : VEx → Env → List Ob → Prop} {e : Env} {H : List Ob} : vwp P c_strings_splitSeq_1 Q e H = vwp P (.seq (.seq (.ops [⟨some 9, .p (.load false 1 (.t 1)), none⟩,
    ⟨some 10, .p (.lenS (.t 9)), none⟩,
    ⟨some 11, .p (.bin 3 .eql (.t 10) (.c (.int .i64 ((0 : Nat) : Int)))), none⟩] [0, 1, 2, 3, 11])
  c_strings_splitSeq_1_k5)
  c_strings_splitSeq_1_k10) Q e H := by_refl rfl
theorem u_strings_splitSeq_1_r {K : TV → Prop} {e : Env} {H : List Ob} : res r_strings_splitSeq_1 e H K = res [] e H K := by_refl rfl
def u_strings_splitSeq_1 := (And.intro (And.intro (And.intro (And.intro @u_strings_splitSeq_1_k1_e @u_strings_splitSeq_1_L2_e) (And.intro @u_strings_splitSeq_1_k3_e @u_strings_splitSeq_1_b4_e)) (And.intro (And.intro @u_strings_splitSeq_1_k5_e @u_strings_splitSeq_1_k6_e) (And.intro @u_strings_splitSeq_1_k7_e @u_strings_splitSeq_1_L8_e))) (And.intro (And.intro @u_strings_splitSeq_1_k9_e @u_strings_splitSeq_1_k10_e) (And.intro @u_strings_splitSeq_1_e @u_strings_splitSeq_1_r)))
theorem go_strings_splitSeq_1 {args : List TV} {H : List Ob} {R : TV → List Ob → Prop} (hn : args.length ≤ 52) (h : vwp Tryd.prog c_strings_splitSeq_1 (atEnd r_strings_splitSeq_1 R) (argsE 0 args) H) : VCalls Tryd.prog 172 args H R := vcalls_of Tryd.func172 t_strings_splitSeq_1 w_strings_splitSeq_1 hn h

/-! strings.IndexAny -/
def c_strings_IndexAny_b1 : VCode := .seq (.ops [⟨some 16, .p (.mov (.t 1)), none⟩,
    ⟨some 17, .p (.idxS (.t 16) (.c (.int .i64 ((0 : Nat) : Int)))), none⟩,
    ⟨some 18, .p (.conv .i32 (.t 17)), none⟩,
    ⟨some 5, .p (.mov (.t 18)), none⟩] [0, 5])
  (.seq (.seq (.ops [⟨some 19, .p (.mov (.t 5)), none⟩,
    ⟨some 20, .p (.bin 21 .geq (.t 19) (.c (.int .i32 ((128 : Nat) : Int)))), none⟩] [0, 5, 20])
  (.cond (.t 20)
  (.ops [⟨some 5, .p (.mov (.c (.int .i32 ((65533 : Nat) : Int)))), none⟩] [0, 5])
  (.skip)))
  (.seq (.ops [⟨some 21, .p (.mov (.t 0)), none⟩,
    ⟨some 22, .p (.mov (.t 5)), none⟩,
    ⟨some 23, .s (.call 108 [.t 21, .t 22]), none⟩,
    ⟨some 4, .p (.mov (.t 23)), none⟩] [4])
  (.ret)))
def c_strings_IndexAny_L2 : VCode := .seq (.seq (.ops [⟨some 33, .p (.mov (.t 8)), none⟩,
    ⟨some 34, .p (.mov (.t 0)), none⟩,
    ⟨some 35, .p (.lenS (.t 34)), none⟩,
    ⟨some 36, .p (.bin 3 .lss (.t 33) (.t 35)), none⟩] [0, 6, 8, 36])
  (.cond (.t 36)
  (.skip)
  (.exit 0)))
  (.seq (.block 1 (.seq (.ops [⟨some 39, .p (.mov (.t 0)), none⟩,
    ⟨some 40, .p (.mov (.t 8)), none⟩,
    ⟨some 41, .p (.idxS (.t 39) (.t 40)), none⟩,
    ⟨some 42, .s (.call 204 [.t 6, .t 41]), none⟩] [0, 6, 8, 42])
  (.cond (.t 42)
  (.seq (.ops [⟨some 43, .p (.mov (.t 8)), none⟩,
      ⟨some 4, .p (.mov (.t 43)), none⟩] [4])
    (.ret))
  (.skip))))
  (.ops [⟨some 37, .p (.mov (.t 8)), none⟩,
    ⟨some 38, .p (.bin 3 .add (.t 37) (.c (.int .i64 ((1 : Nat) : Int)))), none⟩,
    ⟨some 8, .p (.mov (.t 38)), none⟩] [0, 6, 8]))
def c_strings_IndexAny_k3 : VCode := .block 0 (.loop [0, 6, 8] c_strings_IndexAny_L2)
def c_strings_IndexAny_k4 : VCode := .seq (.ops [⟨some 4, .p (.mov (.c (.int .i64 (-1)))), none⟩] [4])
  (.ret)
def c_strings_IndexAny_b5 : VCode := .seq (.seq (.ops [⟨some 8, .p (.mov (.c (.int .i64 ((0 : Nat) : Int)))), none⟩] [0, 6, 8])
  c_strings_IndexAny_k3)
  c_strings_IndexAny_k4
def c_strings_IndexAny_k6 : VCode := .cond (.t 32)
  c_strings_IndexAny_b5
  (.skip)
def c_strings_IndexAny_k7 : VCode := .seq (.ops [⟨some 32, .p (.mov (.t 7)), none⟩] [0, 1, 6, 32])
  c_strings_IndexAny_k6
def c_strings_IndexAny_b8 : VCode := .seq (.ops [⟨some 28, .p (.mov (.t 1)), none⟩,
    ⟨some 29, .s (.call 203 [.t 28]), none⟩,
    ⟨some 27, .p (.mov (.t 29)), none⟩,
    ⟨some 30, .p (.ext 0 (.t 27)), none⟩,
    ⟨some 31, .p (.ext 1 (.t 27)), none⟩,
    ⟨some 6, .s (.alloc (.arr 256 1 [.val (.bool false), .val (.bool false), .val (.bool false), .val (.bool false), .val (.bool false), .val (.bool false), .val (.bool false), .val (.bool false), .val (.bool false), .val (.bool false), .val (.bool false), .val (.bool false), .val (.bool false), .val (.bool false), .val (.bool false), .val (.bool false), .val (.bool false), .val (.bool false), .val (.bool false), .val (.bool false), .val (.bool false), .val (.bool false), .val (.bool false), .val (.bool false), .val (.bool false), .val (.bool false), .val (.bool false), .val (.bool false), .val (.bool false), .val (.bool false), .val (.bool false), .val (.bool false), .val (.bool false), .val (.bool false), .val (.bool false), .val (.bool false), .val (.bool false), .val (.bool false), .val (.bool false), .val (.bool false), .val (.bool false), .val (.bool false), .val (.bool false), .val (.bool false), .val (.bool false), .val (.bool false), .val (.bool false), .val (.bool false), .val (.bool false), .val (.bool false), .val (.bool false), .val (.bool false), .val (.bool false), .val (.bool false), .val (.bool false), .val (.bool false), .val (.bool false), .val (.bool false), .val (.bool false), .val (.bool false), .val (.bool false), .val (.bool false), .val (.bool false), .val (.bool false), .val (.bool false), .val (.bool false), .val (.bool false), .val (.bool false), .val (.bool false), .val (.bool false), .val (.bool false), .val (.bool false), .val (.bool false), .val (.bool false), .val (.bool false), .val (.bool false), .val (.bool false), .val (.bool false), .val (.bool false), .val (.bool false), .val (.bool false), .val (.bool false), .val (.bool false), .val (.bool false), .val (.bool false), .val (.bool false), .val (.bool false), .val (.bool false), .val (.bool false), .val (.bool false), .val (.bool false), .val (.bool false), .val (.bool false), .val (.bool false), .val (.bool false), .val (.bool false), .val (.bool false), .val (.bool false), .val (.bool false), .val (.bool false), .val (.bool false), .val (.bool false), .val (.bool false), .val (.bool false), .val (.bool false), .val (.bool false), .val (.bool false), .val (.bool false), .val (.bool false), .val (.bool false), .val (.bool false), .val (.bool false), .val (.bool false), .val (.bool false), .val (.bool false), .val (.bool false), .val (.bool false), .val (.bool false), .val (.bool false), .val (.bool false), .val (.bool false), .val (.bool false), .val (.bool false), .val (.bool false), .val (.bool false), .val (.bool false), .val (.bool false), .val (.bool false), .val (.bool false), .val (.bool false), .val (.bool false), .val (.bool false), .val (.bool false), .val (.bool false), .val (.bool false), .val (.bool false), .val (.bool false), .val (.bool false), .val (.bool false), .val (.bool false), .val (.bool false), .val (.bool false), .val (.bool false), .val (.bool false), .val (.bool false), .val (.bool false), .val (.bool false), .val (.bool false), .val (.bool false), .val (.bool false), .val (.bool false), .val (.bool false), .val (.bool false), .val (.bool false), .val (.bool false), .val (.bool false), .val (.bool false), .val (.bool false), .val (.bool false), .val (.bool false), .val (.bool false), .val (.bool false), .val (.bool false), .val (.bool false), .val (.bool false), .val (.bool false), .val (.bool false), .val (.bool false), .val (.bool false), .val (.bool false), .val (.bool false), .val (.bool false), .val (.bool false), .val (.bool false), .val (.bool false), .val (.bool false), .val (.bool false), .val (.bool false), .val (.bool false), .val (.bool false), .val (.bool false), .val (.bool false), .val (.bool false), .val (.bool false), .val (.bool false), .val (.bool false), .val (.bool false), .val (.bool false), .val (.bool false), .val (.bool false), .val (.bool false), .val (.bool false), .val (.bool false), .val (.bool false), .val (.bool false), .val (.bool false), .val (.bool false), .val (.bool false), .val (.bool false), .val (.bool false), .val (.bool false), .val (.bool false), .val (.bool false), .val (.bool false), .val (.bool false), .val (.bool false), .val (.bool false), .val (.bool false), .val (.bool false), .val (.bool false), .val (.bool false), .val (.bool false), .val (.bool false), .val (.bool false), .val (.bool false), .val (.bool false), .val (.bool false), .val (.bool false), .val (.bool false), .val (.bool false), .val (.bool false), .val (.bool false), .val (.bool false), .val (.bool false), .val (.bool false), .val (.bool false), .val (.bool false), .val (.bool false), .val (.bool false), .val (.bool false), .val (.bool false), .val (.bool false), .val (.bool false), .val (.bool false), .val (.bool false), .val (.bool false), .val (.bool false), .val (.bool false), .val (.bool false), .val (.bool false), .val (.bool false), .val (.bool false), .val (.bool false), .val (.bool false), .val (.bool false), .val (.bool false), .val (.bool false), .val (.bool false), .val (.bool false), .val (.bool false), .val (.bool false), .val (.bool false), .val (.bool false), .val (.bool false), .val (.bool false), .val (.bool false)])), none⟩,
    ⟨none, .s (.store 256 (.t 6) (.t 30)), none⟩,
    ⟨some 7, .p (.mov (.t 31)), none⟩] [0, 1, 6, 7])
  c_strings_IndexAny_k7
def c_strings_IndexAny_k9 : VCode := .cond (.t 26)
  c_strings_IndexAny_b8
  (.skip)
def c_strings_IndexAny_L10 : VCode := .seq (.ops [⟨some 46, .s (.nxtS (.t 45)), none⟩,
    ⟨some 47, .p (.ext 0 (.t 46)), none⟩] [1, 45, 46, 47])
  (.seq (.cond (.t 47)
  (.skip)
  (.exit 2))
  (.block 3 (.seq (.ops [⟨some 48, .p (.ext 1 (.t 46)), none⟩,
    ⟨some 49, .p (.ext 2 (.t 46)), none⟩,
    ⟨some 9, .p (.mov (.t 48)), none⟩,
    ⟨some 10, .p (.mov (.t 49)), none⟩] [1, 9, 10, 45])
  (.seq (.ops [⟨some 50, .p (.mov (.t 1)), none⟩,
    ⟨some 51, .p (.mov (.t 10)), none⟩,
    ⟨some 52, .s (.call 108 [.t 50, .t 51]), none⟩,
    ⟨some 53, .p (.bin 3 .geq (.t 52) (.c (.int .i64 ((0 : Nat) : Int)))), none⟩] [1, 9, 45, 53])
  (.cond (.t 53)
  (.seq (.ops [⟨some 54, .p (.mov (.t 9)), none⟩,
      ⟨some 4, .p (.mov (.t 54)), none⟩] [4])
    (.ret))
  (.skip))))))
def c_strings_IndexAny_k11 : VCode := .seq (.ops [⟨some 4, .p (.mov (.c (.int .i64 (-1)))), none⟩] [4])
  (.ret)
def c_strings_IndexAny_k12 : VCode := .seq (.seq (.ops [⟨some 44, .p (.mov (.t 0)), none⟩,
    ⟨some 45, .s (.rngS (.t 44)), none⟩] [1, 45])
  (.block 2 (.loop [1, 45] c_strings_IndexAny_L10)))
  c_strings_IndexAny_k11
def c_strings_IndexAny_k13 : VCode := .seq (.seq (.ops [⟨some 24, .p (.mov (.t 0)), none⟩,
    ⟨some 25, .p (.lenS (.t 24)), none⟩,
    ⟨some 26, .s (.call 202 [.t 25]), none⟩] [0, 1, 26])
  c_strings_IndexAny_k9)
  c_strings_IndexAny_k12
def c_strings_IndexAny_k14 : VCode := .seq (.seq (.ops [⟨some 13, .p (.mov (.t 1)), none⟩,
    ⟨some 14, .p (.lenS (.t 13)), none⟩,
    ⟨some 15, .p (.bin 3 .eql (.t 14) (.c (.int .i64 ((1 : Nat) : Int)))), none⟩] [0, 1, 15])
  (.cond (.t 15)
  c_strings_IndexAny_b1
  (.skip)))
  c_strings_IndexAny_k13
def c_strings_IndexAny_k15 : VCode := .seq (.seq (.ops [⟨some 11, .p (.mov (.t 1)), none⟩,
    ⟨some 12, .p (.bin 9 .eql (.t 11) (.c (.string (str [])))), none⟩] [0, 1, 12])
  (.cond (.t 12)
  (.seq (.ops [⟨some 4, .p (.mov (.c (.int .i64 (-1)))), none⟩] [4])
    (.ret))
  (.skip)))
  c_strings_IndexAny_k14
def c_strings_IndexAny : VCode := .seq (.ops [⟨some 4, .p (.mov (.c (.int .i64 ((0 : Nat) : Int)))), none⟩] [0, 1])
  c_strings_IndexAny_k15
def r_strings_IndexAny : List VR := [.tmp 4]
theorem t_strings_IndexAny : Tryd.f174.body.bind (trC Tryd.prog Tryd.f174.ntmps) = some (er c_strings_IndexAny) := by kernel_rfl
theorem w_strings_IndexAny : trR Tryd.prog Tryd.f174.results.toList = some r_strings_IndexAny := by kernel_rfl
theorem u_strings_IndexAny_b1_e {P : Program} {Q : VEx → Env → List Ob → Prop} {e : Env} {H : List Ob} : vwp P c_strings_IndexAny_b1 Q e H = vwp P (.seq (.ops [⟨some 16, .p (.mov (.t 1)), none⟩,
    ⟨some 17, .p (.idxS (.t 16) (.c (.int .i64 ((0 : Nat) : Int)))), none⟩,
    ⟨some 18, .p (.conv .i32 (.t 17)), none⟩,
    ⟨some 5, .p (.mov (.t 18)), none⟩] [0, 5])
  (.seq (.seq (.ops [⟨some 19, .p (.mov (.t 5)), none⟩,
    ⟨some 20, .p (.bin 21 .geq (.t 19) (.c (.int .i32 ((128 : Nat) : Int)))), none⟩] [0, 5, 20])
  (.cond (.t 20)
  (.ops [⟨some 5, .p (.mov (.c (.int .i32 ((65533 : Nat) : Int)))), none⟩] [0, 5])
  (.skip)))
  (.seq (.ops [⟨some 21, .p (.mov (.t 0)), none⟩,
    ⟨some 22, .p (.mov (.t 5)), none⟩,
    ⟨some 23, .s (.call 108 [.t 21, .t 22]), none⟩,
    ⟨some 4, .p (.mov (.t 23)), none⟩] [4])
  (.ret)))) Q e H := by_refl rfl
theorem u_strings_IndexAny_L2_e {P : Program} {Q : VEx → Env → List Ob → Prop} {e : Env} {H : List Ob} : vwp P c_strings_IndexAny_L2 Q e H = vwp P (.seq (.seq (.ops [⟨some 33, .p (.mov (.t 8)), none⟩,
    ⟨some 34, .p (.mov (.t 0)), none⟩,
    ⟨some 35, .p (.lenS (.t 34)), none⟩,
    ⟨some 36, .p (.bin 3 .lss (.t 33) (.t 35)), none⟩] [0, 6, 8, 36])
  (.cond (.t 36)
  (.skip)
  (.exit 0)))
  (.seq (.block 1 (.seq (.ops [⟨some 39, .p (.mov (.t 0)), none⟩,
    ⟨some 40, .p (.mov (.t 8)), none⟩,
    ⟨some 41, .p (.idxS (.t 39) (.t 40)), none⟩,
    ⟨some 42, .s (.call 204 [.t 6, .t 41]), none⟩] [0, 6, 8, 42])
  (.cond (.t 42)
  (.seq (.ops [⟨some 43, .p (.mov (.t 8)), none⟩,
      ⟨some 4, .p (.mov (.t 43)), none⟩] [4])
    (.ret))
  (.skip))))
  (.ops [⟨some 37, .p (.mov (.t 8)), none⟩,
    ⟨some 38, .p (.bin 3 .add (.t 37) (.c (.int .i64 ((1 : Nat) : Int)))), none⟩,
    ⟨some 8, .p (.mov (.t 38)), none⟩] [0, 6, 8]))) Q e H := by_refl rfl
theorem u_strings_IndexAny_k3_e {P : Program} {Q : VEx → Env → List Ob → Prop} {e : Env} {H : List Ob} : vwp P c_strings_IndexAny_k3 Q e H = vwp P (.block 0 (.loop [0, 6, 8] c_strings_IndexAny_L2)) Q e H := by_refl rfl
theorem u_strings_IndexAny_k4_e {P : Program} {Q : VEx → Env → List Ob → Prop} {e : Env} {H : List Ob} : vwp P c_strings_IndexAny_k4 Q e H = vwp P (.seq (.ops [⟨some 4, .p (.mov (.c (.int .i64 (-1)))), none⟩] [4])
  (.ret)) Q e H := by_refl rfl
theorem u_strings_IndexAny_b5_e {P : Program} {Q : VEx → Env → List Ob → Prop} {e : Env} {H : List Ob} : vwp P c_strings_IndexAny_b5 Q e H = vwp P (.seq (.seq (.ops [⟨some 8, .p (.mov (.c (.int .i64 ((0 : Nat) : Int)))), none⟩] [0, 6, 8])
  c_strings_IndexAny_k3)
  c_strings_IndexAny_k4) Q e H := by_refl rfl
theorem u_strings_IndexAny_k6_e {P : Program} {Q : VEx → Env → List Ob → Prop} {e : Env} {H : List Ob} : vwp P c_strings_IndexAny_k6 Q e H = vwp P (.cond (.t 32)
  c_strings_IndexAny_b5
  (.skip)) Q e H := by_refl rfl
theorem u_strings_IndexAny_k7_e {P : Program} {Q : VEx → Env → List Ob → Prop} {e : Env} {H : List Ob} : vwp P c_strings_IndexAny_k7 Q e H = vwp P (.seq (.ops [⟨some 32, .p (.mov (.t 7)), none⟩] [0, 1, 6, 32])
  c_strings_IndexAny_k6) Q e H := by_refl rfl
theorem u_strings_IndexAny_b8_e {P : Program} {Q : VEx → Env → List Ob → Prop} {e : Env} {H : List Ob} : vwp P c_strings_IndexAny_b8 Q e H = vwp P (.seq (.ops [⟨some 28, .p (.mov (.t 1)), none⟩,
    ⟨some 29, .s (.call 203 [.t 28]), none⟩,
    ⟨some 27, .p (.mov (.t 29)), none⟩,
    ⟨some 30, .p (.ext 0 (.t 27)), none⟩,
    ⟨some 31, .p (.ext 1 (.t 27)), none⟩,
    ⟨some 6, .s (.alloc (.arr 256 1 [.val (.bool false), .val (.bool false), .val (.bool false), .val (.bool false), .val (.bool false), .val (.bool false), .val (.bool false), .val (.bool false), .val (.bool false), .val (.bool false), .val (.bool false), .val (.bool false), .val (.bool false), .val (.bool false), .val (.bool false), .val (.bool false), .val (.bool false), .val (.bool false), .val (.bool false), .val (.bool false), .val (.bool false), .val (.bool false), .val (.bool false), .val (.bool false), .val (.bool false), .val (.bool false), .val (.bool false), .val (.bool false), .val (.bool false), .val (.bool false), .val (.bool false), .val (.bool false), .val (.bool false), .val (.bool false), .val (.bool false), .val (.bool false), .val (.bool false), .val (.bool false), .val (.bool false), .val (.bool false), .val (.bool false), .val (.bool false), .val (.bool false), .val (.bool false), .val (.bool false), .val (.bool false), .val (.bool false), .val (.bool false), .val (.bool false), .val (.bool false), .val (.bool false), .val (.bool false), .val (.bool false), .val (.bool false), .val (.bool false), .val (.bool false), .val (.bool false), .val (.bool false), .val (.bool false), .val (.bool false), .val (.bool false), .val (.bool false), .val (.bool false), .val (.bool false), .val (.bool false), .val (.bool false), .val (.bool false), .val (.bool false), .val (.bool false), .val (.bool false), .val (.bool false), .val (.bool false), .val (.bool false), .val (.bool false), .val (.bool false), .val (.bool false), .val (.bool false), .val (.bool false), .val (.bool false), .val (.bool false), .val (.bool false), .val (.bool false), .val (.bool false), .val (.bool false), .val (.bool false), .val (.bool false), .val (.bool false), .val (.bool false), .val (.bool false), .val (.bool false), .val (.bool false), .val (.bool false), .val (.bool false), .val (.bool false), .val (.bool false), .val (.bool false), .val (.bool false), .val (.bool false), .val (.bool false), .val (.bool false), .val (.bool false), .val (.bool false), .val (.bool false), .val (.bool false), .val (.bool false), .val (.bool false), .val (.bool false), .val (.bool false), .val (.bool false), .val (.bool false), .val (.bool false), .val (.bool false), .val (.bool false), .val (.bool false), .val (.bool false), .val (.bool false), .val (.bool false), .val (.bool false), .val (.bool false), .val (.bool false), .val (.bool false), .val (.bool false), .val (.bool false), .val (.bool false), .val (.bool false), .val (.bool false), .val (.bool false), .val (.bool false), .val (.bool false), .val (.bool false), .val (.bool false), .val (.bool false), .val (.bool false), .val (.bool false), .val (.bool false), .val (.bool false), .val (.bool false), .val (.bool false), .val (.bool false), .val (.bool false), .val (.bool false), .val (.bool false), .val (.bool false), .val (.bool false), .val (.bool false), .val (.bool false), .val (.bool false), .val (.bool false), .val (.bool false), .val (.bool false), .val (.bool false), .val (.bool false), .val (.bool false), .val (.bool false), .val (.bool false), .val (.bool false), .val (.bool false), .val (.bool false), .val (.bool false), .val (.bool false), .val (.bool false), .val (.bool false), .val (.bool false), .val (.bool false), .val (.bool false), .val (.bool false), .val (.bool false), .val (.bool false), .val (.bool false), .val (.bool false), .val (.bool false), .val (.bool false), .val (.bool false), .val (.bool false), .val (.bool false), .val (.bool false), .val (.bool false), .val (.bool false), .val (.bool false), .val (.bool false), .val (.bool false), .val (.bool false), .val (.bool false), .val (.bool false), .val (.bool false), .val (.bool false), .val (.bool false), .val (.bool false), .val (.bool false), .val (.bool false), .val (.bool false), .val (.bool false), .val (.bool false), .val (.bool false), .val (.bool false), .val (.bool false), .val (.bool false), .val (.bool false), .val (.bool false), .val (.bool false), .val (.bool false), .val (.bool false), .val (.bool false), .val (.bool false), .val (.bool false), .val (.bool false), .val (.bool false), .val (.bool false), .val (.bool false), .val (.bool false), .val (.bool false), .val (.bool false), .val (.bool false), .val (.bool false), .val (.bool false), .val (.bool false), .val (.bool false), .val (.bool false), .val (.bool false), .val (.bool false), .val (.bool false), .val (.bool false), .val (.bool false), .val (.bool false), .val (.bool false), .val (.bool false), .val (.bool false), .val (.bool false), .val (.bool false), .val (.bool false), .val (.bool false), .val (.bool false), .val (.bool false), .val (.bool false), .val (.bool false), .val (.bool false), .val (.bool false), .val (.bool false), .val (.bool false), .val (.bool false), .val (.bool false), .val (.bool false), .val (.bool false), .val (.bool false), .val (.bool false), .val (.bool false), .val (.bool false), .val (.bool false), .val (.bool false), .val (.bool false), .val (.bool false), .val (.bool false), .val (.bool false), .val (.bool false), .val (.bool false), .val (.bool false)])), none⟩,
    ⟨none, .s (.store 256 (.t 6) (.t 30)), none⟩,
    ⟨some 7, .p (.mov (.t 31)), none⟩] [0, 1, 6, 7])
  c_strings_IndexAny_k7) Q e H := by_refl rfl
theorem u_strings_IndexAny_k9_e {P : Program} {Q : VEx → Env → List Ob → Prop} {e : Env} {H : List Ob} : vwp P c_strings_IndexAny_k9 Q e H = vwp P (.cond (.t 26)
  c_strings_IndexAny_b8
  (.skip)) Q e H := by_refl rfl
theorem u_strings_IndexAny_L10_e {P : Program} {Q : VEx → Env → List Ob → Prop} {e : Env} {H : List Ob} : vwp P c_strings_IndexAny_L10 Q e H = vwp P (.seq (.ops [⟨some 46, .s (.nxtS (.t 45)), none⟩,
    ⟨some 47, .p (.ext 0 (.t 46)), none⟩] [1, 45, 46, 47])
  (.seq (.cond (.t 47)
  (.skip)
  (.exit 2))
  (.block 3 (.seq (.ops [⟨some 48, .p (.ext 1 (.t 46)), none⟩,
    ⟨some 49, .p (.ext 2 (.t 46)), none⟩,
    ⟨some 9, .p (.mov (.t 48)), none⟩,
    ⟨some 10, .p (.mov (.t 49)), none⟩] [1, 9, 10, 45])
  (.seq (.ops [⟨some 50, .p (.mov (.t 1)), none⟩,
    ⟨some 51, .p (.mov (.t 10)), none⟩,
    ⟨some 52, .s (.call 108 [.t 50, .t 51]), none⟩,
    ⟨some 53, .p (.bin 3 .geq (.t 52) (.c (.int .i64 ((0 : Nat) : Int)))), none⟩] [1, 9, 45, 53])
  (.cond (.t 53)
  (.seq (.ops [⟨some 54, .p (.mov (.t 9)), none⟩,
      ⟨some 4, .p (.mov (.t 54)), none⟩] [4])
    (.ret))
  (.skip))))))) Q e H := by_refl rfl
theorem u_strings_IndexAny_k11_e {P : Program} {Q : VEx → Env → List Ob → Prop} {e : Env} {H : List Ob} : vwp P c_strings_IndexAny_k11 Q e H = vwp P (.seq (.ops [⟨some 4, .p (.mov (.c (.int .i64 (-1)))), none⟩] [4])
  (.ret)) Q e H := by_refl rfl
theorem u_strings_IndexAny_k12_e {P : Program} {Q : VEx → Env → List Ob → Prop} {e : Env} {H : List Ob} : vwp P c_strings_IndexAny_k12 Q e H = vwp P (.seq (.seq (.ops [⟨some 44, .p (.mov (.t 0)), none⟩,
    ⟨some 45, .s (.rngS (.t 44)), none⟩] [1, 45])
  (.block 2 (.loop [1, 45] c_strings_IndexAny_L10)))
  c_strings_IndexAny_k11) Q e H := by_refl rfl
theorem u_strings_IndexAny_k13_e {P : Program} {Q : VEx → Env → List Ob → Prop} {e : Env} {H : List Ob} : vwp P c_strings_IndexAny_k13 Q e H = vwp P (.seq (.seq (.ops [⟨some 24, .p (.mov (.t 0)), none⟩,
    ⟨some 25, .p (.lenS (.t 24)), none⟩,
    ⟨some 26, .s (.call 202 [.t 25]), none⟩] [0, 1, 26])
  c_strings_IndexAny_k9)
  c_strings_IndexAny_k12) Q e H := by_refl rfl
theorem u_strings_IndexAny_k14_e {P : Program} {Q : VEx → Env → List Ob → Prop} {e : Env} {H : List Ob} : vwp P c_strings_IndexAny_k14 Q e H = vwp P (.seq (.seq (.ops [⟨some 13, .p (.mov (.t 1)), none⟩,
    ⟨some 14, .p (.lenS (.t 13)), none⟩,
    ⟨some 15, .p (.bin 3 .eql (.t 14) (.c (.int .i64 ((1 : Nat) : Int)))), none⟩] [0, 1, 15])
  (.cond (.t 15)
  c_strings_IndexAny_b1
  (.skip)))
  c_strings_IndexAny_k13) Q e H := by_refl rfl
theorem u_strings_IndexAny_k15_e {P : Program} {Q : VEx → Env → List Ob → Prop} {e : Env} {H : List Ob} : vwp P c_strings_IndexAny_k15 Q e H = vwp P (.seq (.seq (.ops [⟨some 11, .p (.mov (.t 1)), none⟩,
    ⟨some 12, .p (.bin 9 .eql (.t 11) (.c (.string (str [])))), none⟩] [0, 1, 12])
  (.cond (.t 12)
  (.seq (.ops [⟨some 4, .p (.mov (.c (.int .i64 (-1)))), none⟩] [4])
    (.ret))
  (.skip)))
  c_strings_IndexAny_k14) Q e H := by_refl rfl
theorem u_strings_IndexAny_e {P : Program} {Q : VEx → Env → List Ob → Prop} {e : Env} {H : List Ob} : vwp P c_strings_IndexAny Q e H = vwp P (.seq (.ops [⟨some 4, .p (.mov (.c (.int .i64 ((0 : Nat) : Int)))), none⟩] [0, 1])
  c_strings_IndexAny_k15) Q e H := by_refl rfl
theorem u_strings_IndexAny_r {K : TV → Prop} {e : Env} {H : List Ob} : res r_strings_IndexAny e H K = res [.tmp 4] e H K := by_refl rfl
def u_strings_IndexAny := (And.intro (And.intro (And.intro (And.intro (And.intro @u_strings_IndexAny_b1_e @u_strings_IndexAny_L2_e) (And.intro @u_strings_IndexAny_k3_e @u_strings_IndexAny_k4_e)) (And.intro (And.intro @u_strings_IndexAny_b5_e @u_strings_IndexAny_k6_e) (And.intro @u_strings_IndexAny_k7_e @u_strings_IndexAny_b8_e))) (And.intro (And.intro (And.intro @u_strings_IndexAny_k9_e @u_strings_IndexAny_L10_e) (And.intro @u_strings_IndexAny_k11_e @u_strings_IndexAny_k12_e)) (And.intro (And.intro @u_strings_IndexAny_k13_e @u_strings_IndexAny_k14_e) (And.intro @u_strings_IndexAny_k15_e @u_strings_IndexAny_e)))) @u_strings_IndexAny_r)
theorem go_strings_IndexAny {args : List TV} {H : List Ob} {R : TV → List Ob → Prop} (hn : args.length ≤ 55) (h : vwp Tryd.prog c_strings_IndexAny (atEnd r_strings_IndexAny R) (argsE 0 args) H) : VCalls Tryd.prog 174 args H R := vcalls_of Tryd.func174 t_strings_IndexAny w_strings_IndexAny hn h

/-! strings.IndexRune -/
def c_strings_IndexRune_L1 : VCode := .seq (.ops [⟨some 176, .s (.nxtS (.t 175)), none⟩,
    ⟨some 177, .p (.ext 0 (.t 176)), none⟩] [175, 176, 177])
  (.seq (.cond (.t 177)
  (.skip)
  (.exit 9))
  (.block 10 (.seq (.ops [⟨some 178, .p (.ext 1 (.t 176)), none⟩,
    ⟨some 179, .p (.ext 2 (.t 176)), none⟩,
    ⟨some 5, .p (.mov (.t 178)), none⟩,
    ⟨some 6, .p (.mov (.t 179)), none⟩] [5, 6, 175])
  (.seq (.ops [⟨some 180, .p (.mov (.t 6)), none⟩,
    ⟨some 181, .p (.bin 21 .eql (.t 180) (.c (.int .i32 ((65533 : Nat) : Int)))), none⟩] [5, 175, 181])
  (.cond (.t 181)
  (.seq (.ops [⟨some 182, .p (.mov (.t 5)), none⟩,
      ⟨some 4, .p (.mov (.t 182)), none⟩] [4])
    (.ret))
  (.skip))))))
def c_strings_IndexRune_k2 : VCode := .seq (.ops [⟨some 4, .p (.mov (.c (.int .i64 (-1)))), none⟩] [4])
  (.ret)
def c_strings_IndexRune_b3 : VCode := .seq (.seq (.ops [⟨some 174, .p (.mov (.t 0)), none⟩,
    ⟨some 175, .s (.rngS (.t 174)), none⟩] [175])
  (.block 9 (.loop [175] c_strings_IndexRune_L1)))
  c_strings_IndexRune_k2
def c_strings_IndexRune_b4 : VCode := .seq (.draw 5 [⟨some 34, .p (.mov (.t 0)), none⟩,
    ⟨some 35, .p (.mov (.t 9)), none⟩,
    ⟨some 36, .p (.bin 3 .add (.t 35) (.c (.int .i64 ((1 : Nat) : Int)))), none⟩,
    ⟨some 37, .p (.slS (.t 34) (some (.t 36)) none), none⟩,
    ⟨some 38, .p (.mov (.t 7)), none⟩,
    ⟨some 39, .p (.mov (.t 8)), none⟩,
    ⟨some 40, .p (.idxS (.t 38) (.t 39)), none⟩,
    ⟨some 41, .s (.call 168 [.t 37, .t 40]), none⟩,
    ⟨some 11, .p (.mov (.t 41)), none⟩] [0, 7, 8, 9, 11])
  (.seq (.seq (.ops [⟨some 42, .p (.mov (.t 11)), none⟩,
    ⟨some 43, .p (.bin 3 .lss (.t 42) (.c (.int .i64 ((0 : Nat) : Int)))), none⟩] [0, 7, 8, 9, 11, 43])
  (.cond (.t 43)
  (.seq (.ops [⟨some 4, .p (.mov (.c (.int .i64 (-1)))), none⟩] [4])
    (.ret))
  (.skip)))
  (.ops [⟨some 44, .p (.mov (.t 9)), none⟩,
    ⟨some 45, .p (.mov (.t 11)), none⟩,
    ⟨some 46, .p (.bin 3 .add (.t 45) (.c (.int .i64 ((1 : Nat) : Int)))), none⟩,
    ⟨some 47, .p (.bin 3 .add (.t 44) (.t 46)), none⟩,
    ⟨some 9, .p (.mov (.t 47)), none⟩] [0, 7, 8, 9]))
def c_strings_IndexRune_k5 : VCode := .cond (.t 33)
  c_strings_IndexRune_b4
  (.skip)
def c_strings_IndexRune_k6 : VCode := .seq (.block 4 (.seq (.draw 7 [⟨some 54, .p (.mov (.t 0)), none⟩,
    ⟨some 55, .p (.mov (.t 9)), none⟩,
    ⟨some 56, .p (.mov (.t 12)), none⟩,
    ⟨some 57, .p (.bin 3 .sub (.t 55) (.t 56)), none⟩,
    ⟨some 58, .p (.idxS (.t 54) (.t 57)), none⟩,
    ⟨some 59, .p (.mov (.t 7)), none⟩,
    ⟨some 60, .p (.mov (.t 8)), none⟩,
    ⟨some 61, .p (.mov (.t 12)), none⟩,
    ⟨some 62, .p (.bin 3 .sub (.t 60) (.t 61)), none⟩,
    ⟨some 63, .p (.idxS (.t 59) (.t 62)), none⟩,
    ⟨some 64, .p (.bin 5 .neq (.t 58) (.t 63)), none⟩] [0, 7, 8, 9, 12, 64])
  (.cond (.t 64)
  (.dead)
  (.skip))))
  (.ops [⟨some 52, .p (.mov (.t 12)), none⟩,
    ⟨some 53, .p (.bin 3 .add (.t 52) (.c (.int .i64 ((1 : Nat) : Int)))), none⟩,
    ⟨some 12, .p (.mov (.t 53)), none⟩] [0, 7, 8, 9, 12])
def c_strings_IndexRune_L7 : VCode := .seq (.seq (.ops [⟨some 48, .p (.mov (.t 12)), none⟩,
    ⟨some 49, .p (.mov (.t 7)), none⟩,
    ⟨some 50, .p (.lenS (.t 49)), none⟩,
    ⟨some 51, .p (.bin 3 .lss (.t 48) (.t 50)), none⟩] [0, 7, 8, 9, 12, 51])
  (.cond (.t 51)
  (.skip)
  (.exit 3)))
  c_strings_IndexRune_k6
def c_strings_IndexRune_k8 : VCode := .block 3 (.loop [0, 7, 8, 9, 12] c_strings_IndexRune_L7)
def c_strings_IndexRune_k9 : VCode := .seq (.ops [⟨some 72, .p (.mov (.c (.bool true))), none⟩,
    ⟨some 73, .p (.mov (.t 10)), some ⟨72, true⟩⟩,
    ⟨some 74, .p (.mov (.t 9)), some ⟨72, true⟩⟩,
    ⟨some 75, .s (.call 170 [.t 74]), some ⟨72, true⟩⟩,
    ⟨some 76, .p (.bin 3 .gtr (.t 73) (.t 75)), some ⟨72, true⟩⟩,
    ⟨some 77, .p (.pick (.t 72) (.t 76) (.c (.bool false))), none⟩,
    ⟨some 78, .p (.mov (.t 77)), none⟩,
    ⟨some 79, .p (.mov (.t 9)), some ⟨78, true⟩⟩,
    ⟨some 80, .p (.mov (.t 0)), some ⟨78, true⟩⟩,
    ⟨some 81, .p (.lenS (.t 80)), some ⟨78, true⟩⟩,
    ⟨some 82, .p (.bin 3 .lss (.t 79) (.t 81)), some ⟨78, true⟩⟩,
    ⟨some 83, .p (.pick (.t 78) (.t 82) (.c (.bool false))), none⟩,
    ⟨some 84, .p (.mov (.t 83)), none⟩,
    ⟨some 85, .p (.mov (.c (.bool false))), some ⟨84, false⟩⟩,
    ⟨some 86, .p (.mov (.t 10)), some ⟨85, true⟩⟩,
    ⟨some 87, .p (.mov (.t 9)), some ⟨85, true⟩⟩,
    ⟨some 88, .p (.bin 3 .shr (.t 87) (.c (.int .u64 ((4 : Nat) : Int)))), some ⟨85, true⟩⟩,
    ⟨some 89, .p (.bin 3 .add (.c (.int .i64 ((4 : Nat) : Int))) (.t 88)), some ⟨85, true⟩⟩,
    ⟨some 90, .p (.bin 3 .geq (.t 86) (.t 89)), some ⟨85, true⟩⟩,
    ⟨some 91, .p (.pick (.t 85) (.t 90) (.c (.bool false))), some ⟨84, false⟩⟩,
    ⟨some 92, .p (.mov (.t 91)), some ⟨84, false⟩⟩,
    ⟨some 93, .p (.mov (.t 9)), some ⟨92, true⟩⟩,
    ⟨some 94, .p (.mov (.t 0)), some ⟨92, true⟩⟩,
    ⟨some 95, .p (.lenS (.t 94)), some ⟨92, true⟩⟩,
    ⟨some 96, .p (.bin 3 .lss (.t 93) (.t 95)), some ⟨92, true⟩⟩,
    ⟨some 97, .p (.pick (.t 92) (.t 96) (.c (.bool false))), some ⟨84, false⟩⟩,
    ⟨some 98, .p (.pick (.t 84) (.c (.bool true)) (.t 97)), none⟩] [0, 7, 8, 9, 98])
  (.cond (.t 98)
  (.dead)
  (.skip))
def c_strings_IndexRune_k10 : VCode := .seq (.ops [⟨some 70, .p (.mov (.t 9)), none⟩,
    ⟨some 71, .p (.bin 3 .add (.t 70) (.c (.int .i64 ((1 : Nat) : Int)))), none⟩,
    ⟨some 9, .p (.mov (.t 71)), none⟩] [0, 7, 8, 9, 10])
  c_strings_IndexRune_k9
def c_strings_IndexRune_k11 : VCode := .seq (.ops [⟨some 68, .p (.mov (.t 10)), none⟩,
    ⟨some 69, .p (.bin 3 .add (.t 68) (.c (.int .i64 ((1 : Nat) : Int)))), none⟩,
    ⟨some 10, .p (.mov (.t 69)), none⟩] [0, 7, 8, 9, 10])
  c_strings_IndexRune_k10
def c_strings_IndexRune_k12 : VCode := .seq (.skip)
  c_strings_IndexRune_k11
def c_strings_IndexRune_k13 : VCode := .seq (.seq (.ops [⟨some 65, .p (.mov (.t 9)), none⟩,
    ⟨some 66, .p (.mov (.t 8)), none⟩,
    ⟨some 67, .p (.bin 3 .sub (.t 65) (.t 66)), none⟩,
    ⟨some 4, .p (.mov (.t 67)), none⟩] [4])
  (.ret))
  c_strings_IndexRune_k12
def c_strings_IndexRune_k14 : VCode := .seq (.seq (.ops [⟨some 12, .p (.mov (.c (.int .i64 ((1 : Nat) : Int)))), none⟩] [0, 7, 8, 9, 12])
  c_strings_IndexRune_k8)
  c_strings_IndexRune_k13
def c_strings_IndexRune_k15 : VCode := .block 2 (.scope (.seq (.seq (.draw 4 [⟨some 27, .p (.mov (.t 0)), none⟩,
    ⟨some 28, .p (.mov (.t 9)), none⟩,
    ⟨some 29, .p (.idxS (.t 27) (.t 28)), none⟩,
    ⟨some 30, .p (.mov (.t 7)), none⟩,
    ⟨some 31, .p (.mov (.t 8)), none⟩,
    ⟨some 32, .p (.idxS (.t 30) (.t 31)), none⟩,
    ⟨some 33, .p (.bin 5 .neq (.t 29) (.t 32)), none⟩] [0, 7, 8, 9, 33])
  c_strings_IndexRune_k5)
  c_strings_IndexRune_k14))
def c_strings_IndexRune_L16 : VCode := .seq (.seq (.ops [⟨some 23, .p (.mov (.t 9)), none⟩,
    ⟨some 24, .p (.mov (.t 0)), none⟩,
    ⟨some 25, .p (.lenS (.t 24)), none⟩,
    ⟨some 26, .p (.bin 3 .lss (.t 23) (.t 25)), none⟩] [0, 7, 8, 9, 26])
  (.cond (.t 26)
  (.skip)
  (.exit 1)))
  c_strings_IndexRune_k15
def c_strings_IndexRune_b17 : VCode := .seq (.dead)
  (.seq (.ops [⟨some 107, .p (.mov (.t 13)), none⟩,
    ⟨some 108, .p (.bin 3 .geq (.t 107) (.c (.int .i64 ((0 : Nat) : Int)))), none⟩] [8, 9, 13, 108])
  (.cond (.t 108)
  (.seq (.ops [⟨some 109, .p (.mov (.t 9)), none⟩,
      ⟨some 110, .p (.mov (.t 13)), none⟩,
      ⟨some 111, .p (.bin 3 .add (.t 109) (.t 110)), none⟩,
      ⟨some 112, .p (.mov (.t 8)), none⟩,
      ⟨some 113, .p (.bin 3 .sub (.t 111) (.t 112)), none⟩,
      ⟨some 4, .p (.mov (.t 113)), none⟩] [4])
    (.ret))
  (.skip)))
def c_strings_IndexRune_k18 : VCode := .seq (.block 8 (.seq (.draw 7 [⟨some 146, .p (.mov (.t 0)), none⟩,
    ⟨some 147, .p (.mov (.t 9)), none⟩,
    ⟨some 148, .p (.mov (.t 16)), none⟩,
    ⟨some 149, .p (.bin 3 .sub (.t 147) (.t 148)), none⟩,
    ⟨some 150, .p (.idxS (.t 146) (.t 149)), none⟩,
    ⟨some 151, .p (.mov (.t 7)), none⟩,
    ⟨some 152, .p (.mov (.t 8)), none⟩,
    ⟨some 153, .p (.mov (.t 16)), none⟩,
    ⟨some 154, .p (.bin 3 .sub (.t 152) (.t 153)), none⟩,
    ⟨some 155, .p (.idxS (.t 151) (.t 154)), none⟩,
    ⟨some 156, .p (.bin 5 .neq (.t 150) (.t 155)), none⟩] [0, 7, 8, 9, 14, 15, 16, 156])
  (.cond (.t 156)
  (.exit 6)
  (.skip))))
  (.ops [⟨some 144, .p (.mov (.t 16)), none⟩,
    ⟨some 145, .p (.bin 3 .add (.t 144) (.c (.int .i64 ((1 : Nat) : Int)))), none⟩,
    ⟨some 16, .p (.mov (.t 145)), none⟩] [0, 7, 8, 9, 14, 15, 16])
def c_strings_IndexRune_L19 : VCode := .seq (.seq (.ops [⟨some 140, .p (.mov (.t 16)), none⟩,
    ⟨some 141, .p (.mov (.t 7)), none⟩,
    ⟨some 142, .p (.lenS (.t 141)), none⟩,
    ⟨some 143, .p (.bin 3 .lss (.t 140) (.t 142)), none⟩] [0, 7, 8, 9, 14, 15, 16, 143])
  (.cond (.t 143)
  (.skip)
  (.exit 7)))
  c_strings_IndexRune_k18
def c_strings_IndexRune_k20 : VCode := .block 7 (.loop [0, 7, 8, 9, 14, 15, 16] c_strings_IndexRune_L19)
def c_strings_IndexRune_k21 : VCode := .seq (.ops [⟨some 157, .p (.mov (.t 9)), none⟩,
    ⟨some 158, .p (.mov (.t 8)), none⟩,
    ⟨some 159, .p (.bin 3 .sub (.t 157) (.t 158)), none⟩,
    ⟨some 4, .p (.mov (.t 159)), none⟩] [4])
  (.ret)
def c_strings_IndexRune_b22 : VCode := .seq (.seq (.ops [⟨some 16, .p (.mov (.c (.int .i64 ((2 : Nat) : Int)))), none⟩] [0, 7, 8, 9, 14, 15, 16])
  c_strings_IndexRune_k20)
  c_strings_IndexRune_k21
def c_strings_IndexRune_k23 : VCode := .cond (.t 139)
  c_strings_IndexRune_b22
  (.skip)
def c_strings_IndexRune_k24 : VCode := .ops [⟨some 125, .p (.mov (.t 9)), none⟩,
    ⟨some 126, .p (.bin 3 .add (.t 125) (.c (.int .i64 ((1 : Nat) : Int)))), none⟩,
    ⟨some 9, .p (.mov (.t 126)), none⟩] [0, 7, 8, 9, 14, 15]
def c_strings_IndexRune_k25 : VCode := .seq (.block 6 (.seq (.ops [⟨some 127, .p (.mov (.t 0)), none⟩,
    ⟨some 128, .p (.mov (.t 9)), none⟩,
    ⟨some 129, .p (.idxS (.t 127) (.t 128)), none⟩,
    ⟨some 130, .p (.mov (.t 14)), none⟩,
    ⟨some 131, .p (.bin 5 .eql (.t 129) (.t 130)), none⟩,
    ⟨some 132, .p (.mov (.t 131)), none⟩,
    ⟨some 133, .p (.mov (.t 0)), some ⟨132, true⟩⟩,
    ⟨some 134, .p (.mov (.t 9)), some ⟨132, true⟩⟩,
    ⟨some 135, .p (.bin 3 .sub (.t 134) (.c (.int .i64 ((1 : Nat) : Int)))), some ⟨132, true⟩⟩,
    ⟨some 136, .p (.idxS (.t 133) (.t 135)), some ⟨132, true⟩⟩,
    ⟨some 137, .p (.mov (.t 15)), some ⟨132, true⟩⟩,
    ⟨some 138, .p (.bin 5 .eql (.t 136) (.t 137)), some ⟨132, true⟩⟩,
    ⟨some 139, .p (.pick (.t 132) (.t 138) (.c (.bool false))), none⟩] [0, 7, 8, 9, 14, 15, 139])
  c_strings_IndexRune_k23))
  c_strings_IndexRune_k24
def c_strings_IndexRune_L26 : VCode := .seq (.seq (.ops [⟨some 121, .p (.mov (.t 9)), none⟩,
    ⟨some 122, .p (.mov (.t 0)), none⟩,
    ⟨some 123, .p (.lenS (.t 122)), none⟩,
    ⟨some 124, .p (.bin 3 .lss (.t 121) (.t 123)), none⟩] [0, 7, 8, 9, 14, 15, 124])
  (.cond (.t 124)
  (.skip)
  (.exit 5)))
  c_strings_IndexRune_k25
def c_strings_IndexRune_k27 : VCode := .block 5 (.loop [0, 7, 8, 9, 14, 15] c_strings_IndexRune_L26)
def c_strings_IndexRune_k28 : VCode := .seq (.skip)
  c_strings_IndexRune_k27
def c_strings_IndexRune_k29 : VCode := .seq (.ops [⟨some 117, .p (.mov (.t 7)), none⟩,
    ⟨some 118, .p (.mov (.t 8)), none⟩,
    ⟨some 119, .p (.bin 3 .sub (.t 118) (.c (.int .i64 ((1 : Nat) : Int)))), none⟩,
    ⟨some 120, .p (.idxS (.t 117) (.t 119)), none⟩,
    ⟨some 15, .p (.mov (.t 120)), none⟩] [0, 7, 8, 9, 14, 15])
  c_strings_IndexRune_k28
def c_strings_IndexRune_b30 : VCode := .scope (.seq (.ops [⟨some 114, .p (.mov (.t 7)), none⟩,
    ⟨some 115, .p (.mov (.t 8)), none⟩,
    ⟨some 116, .p (.idxS (.t 114) (.t 115)), none⟩,
    ⟨some 14, .p (.mov (.t 116)), none⟩] [0, 7, 8, 9, 14])
  c_strings_IndexRune_k29)
def c_strings_IndexRune_k31 : VCode := .seq (.ops [⟨some 4, .p (.mov (.c (.int .i64 (-1)))), none⟩] [4])
  (.ret)
def c_strings_IndexRune_k32 : VCode := .seq (.cond (.c (.bool true))
  c_strings_IndexRune_b17
  c_strings_IndexRune_b30)
  c_strings_IndexRune_k31
def c_strings_IndexRune_k33 : VCode := .seq (.skip)
  c_strings_IndexRune_k32
def c_strings_IndexRune_k34 : VCode := .seq (.seq (.ops [⟨some 4, .p (.mov (.c (.int .i64 (-1)))), none⟩] [4])
  (.ret))
  c_strings_IndexRune_k33
def c_strings_IndexRune_k35 : VCode := .seq (.block 1 (.loop [0, 7, 8, 9] c_strings_IndexRune_L16))
  c_strings_IndexRune_k34
def c_strings_IndexRune_k36 : VCode := .seq (.ops [⟨some 10, .p (.mov (.c (.int .i64 ((0 : Nat) : Int)))), none⟩] [0, 7, 8, 9])
  c_strings_IndexRune_k35
def c_strings_IndexRune_k37 : VCode := .seq (.ops [⟨some 22, .p (.mov (.t 8)), none⟩,
    ⟨some 9, .p (.mov (.t 22)), none⟩] [0, 7, 8, 9])
  c_strings_IndexRune_k36
def c_strings_IndexRune_k38 : VCode := .seq (.ops [⟨some 19, .p (.mov (.t 7)), none⟩,
    ⟨some 20, .p (.lenS (.t 19)), none⟩,
    ⟨some 21, .p (.bin 3 .sub (.t 20) (.c (.int .i64 ((1 : Nat) : Int)))), none⟩,
    ⟨some 8, .p (.mov (.t 21)), none⟩] [0, 7, 8])
  c_strings_IndexRune_k37
def c_strings_IndexRune_b39 : VCode := .scope (.seq (.ops [⟨some 17, .p (.mov (.t 1)), none⟩,
    ⟨some 18, .p (.gen .r2s [.t 17]), none⟩,
    ⟨some 7, .p (.mov (.t 18)), none⟩] [0, 7])
  c_strings_IndexRune_k38)
def c_strings_IndexRune_k40 : VCode := .cond (.t 183)
  (.seq (.ops [⟨some 4, .p (.mov (.c (.int .i64 (-1)))), none⟩] [4])
    (.ret))
  c_strings_IndexRune_b39
def c_strings_IndexRune_b41 : VCode := .seq (.ops [⟨some 184, .p (.mov (.t 1)), none⟩,
    ⟨some 185, .s (.call 169 [.t 184]), none⟩,
    ⟨some 186, .p (.un .not (.t 185)), none⟩,
    ⟨some 183, .p (.mov (.t 186)), none⟩] [0, 1, 183])
  c_strings_IndexRune_k40
def c_strings_IndexRune_k42 : VCode := .cond (.t 171)
  c_strings_IndexRune_b3
  c_strings_IndexRune_b41
def c_strings_IndexRune_b43 : VCode := .seq (.ops [⟨some 172, .p (.mov (.t 1)), none⟩,
    ⟨some 173, .p (.bin 21 .eql (.t 172) (.c (.int .i32 ((65533 : Nat) : Int)))), none⟩,
    ⟨some 171, .p (.mov (.t 173)), none⟩] [0, 1, 171])
  c_strings_IndexRune_k42
def c_strings_IndexRune_k44 : VCode := .cond (.t 160)
  (.seq (.ops [⟨some 167, .p (.mov (.t 0)), none⟩,
      ⟨some 168, .p (.mov (.t 1)), none⟩,
      ⟨some 169, .p (.conv .u8 (.t 168)), none⟩,
      ⟨some 170, .s (.call 168 [.t 167, .t 169]), none⟩,
      ⟨some 4, .p (.mov (.t 170)), none⟩] [4])
    (.ret))
  c_strings_IndexRune_b43
def c_strings_IndexRune_k45 : VCode := .block 0 (.seq (.ops [⟨some 161, .p (.mov (.t 1)), none⟩,
    ⟨some 162, .p (.bin 21 .leq (.c (.int .i32 ((0 : Nat) : Int))) (.t 161)), none⟩,
    ⟨some 163, .p (.mov (.t 162)), none⟩,
    ⟨some 164, .p (.mov (.t 1)), some ⟨163, true⟩⟩,
    ⟨some 165, .p (.bin 21 .lss (.t 164) (.c (.int .i32 ((128 : Nat) : Int)))), some ⟨163, true⟩⟩,
    ⟨some 166, .p (.pick (.t 163) (.t 165) (.c (.bool false))), none⟩,
    ⟨some 160, .p (.mov (.t 166)), none⟩] [0, 1, 160])
  c_strings_IndexRune_k44)
def c_strings_IndexRune : VCode := .seq (.ops [⟨some 4, .p (.mov (.c (.int .i64 ((0 : Nat) : Int)))), none⟩] [0, 1])
  c_strings_IndexRune_k45
def r_strings_IndexRune : List VR := [.tmp 4]
theorem t_strings_IndexRune : Tryd.f108.body.bind (trC Tryd.prog Tryd.f108.ntmps) = some (er c_strings_IndexRune) := by kernel_rfl
theorem w_strings_IndexRune : trR Tryd.prog Tryd.f108.results.toList = some r_strings_IndexRune := by kernel_rfl
theorem u_strings_IndexRune_L1_e {P : Program} {Q : VEx → Env → List Ob → Prop} {e : Env} {H : List Ob} : vwp P c_strings_IndexRune_L1 Q e H = vwp P (.seq (.ops [⟨some 176, .s (.nxtS (.t 175)), none⟩,
    ⟨some 177, .p (.ext 0 (.t 176)), none⟩] [175, 176, 177])
  (.seq (.cond (.t 177)
  (.skip)
  (.exit 9))
  (.block 10 (.seq (.ops [⟨some 178, .p (.ext 1 (.t 176)), none⟩,
    ⟨some 179, .p (.ext 2 (.t 176)), none⟩,
    ⟨some 5, .p (.mov (.t 178)), none⟩,
    ⟨some 6, .p (.mov (.t 179)), none⟩] [5, 6, 175])
  (.seq (.ops [⟨some 180, .p (.mov (.t 6)), none⟩,
    ⟨some 181, .p (.bin 21 .eql (.t 180) (.c (.int .i32 ((65533 : Nat) : Int)))), none⟩] [5, 175, 181])
  (.cond (.t 181)
  (.seq (.ops [⟨some 182, .p (.mov (.t 5)), none⟩,
      ⟨some 4, .p (.mov (.t 182)), none⟩] [4])
    (.ret))
  (.skip))))))) Q e H := by_refl rfl
theorem u_strings_IndexRune_k2_e {P : Program} {Q : VEx → Env → List Ob → Prop} {e : Env} {H : List Ob} : vwp P c_strings_IndexRune_k2 Q e H = vwp P (.seq (.ops [⟨some 4, .p (.mov (.c (.int .i64 (-1)))), none⟩] [4])
  (.ret)) Q e H := by_refl rfl
theorem u_strings_IndexRune_b3_e {P : Program} {Q : VEx → Env → List Ob → Prop} {e : Env} {H : List Ob} : vwp P c_strings_IndexRune_b3 Q e H = vwp P (.seq (.seq (.ops [⟨some 174, .p (.mov (.t 0)), none⟩,
    ⟨some 175, .s (.rngS (.t 174)), none⟩] [175])
  (.block 9 (.loop [175] c_strings_IndexRune_L1)))
  c_strings_IndexRune_k2) Q e H := by_refl rfl
theorem u_strings_IndexRune_b4_e {P : Program} {Q : VEx → Env → List Ob → Prop} {e : Env} {H : List Ob} : vwp P c_strings_IndexRune_b4 Q e H = vwp P (.seq (.draw 5 [⟨some 34, .p (.mov (.t 0)), none⟩,
    ⟨some 35, .p (.mov (.t 9)), none⟩,
    ⟨some 36, .p (.bin 3 .add (.t 35) (.c (.int .i64 ((1 : Nat) : Int)))), none⟩,
    ⟨some 37, .p (.slS (.t 34) (some (.t 36)) none), none⟩,
    ⟨some 38, .p (.mov (.t 7)), none⟩,
    ⟨some 39, .p (.mov (.t 8)), none⟩,
    ⟨some 40, .p (.idxS (.t 38) (.t 39)), none⟩,
    ⟨some 41, .s (.call 168 [.t 37, .t 40]), none⟩,
    ⟨some 11, .p (.mov (.t 41)), none⟩] [0, 7, 8, 9, 11])
  (.seq (.seq (.ops [⟨some 42, .p (.mov (.t 11)), none⟩,
    ⟨some 43, .p (.bin 3 .lss (.t 42) (.c (.int .i64 ((0 : Nat) : Int)))), none⟩] [0, 7, 8, 9, 11, 43])
  (.cond (.t 43)
  (.seq (.ops [⟨some 4, .p (.mov (.c (.int .i64 (-1)))), none⟩] [4])
    (.ret))
  (.skip)))
  (.ops [⟨some 44, .p (.mov (.t 9)), none⟩,
    ⟨some 45, .p (.mov (.t 11)), none⟩,
    ⟨some 46, .p (.bin 3 .add (.t 45) (.c (.int .i64 ((1 : Nat) : Int)))), none⟩,
    ⟨some 47, .p (.bin 3 .add (.t 44) (.t 46)), none⟩,
    ⟨some 9, .p (.mov (.t 47)), none⟩] [0, 7, 8, 9]))) Q e H := by_refl rfl
theorem u_strings_IndexRune_k5_e {P : Program} {Q : VEx → Env → List Ob → Prop} {e : Env} {H : List Ob} : vwp P c_strings_IndexRune_k5 Q e H = vwp P (.cond (.t 33)
  c_strings_IndexRune_b4
  (.skip)) Q e H := by_refl rfl
theorem u_strings_IndexRune_k6_e {P : Program} {Q : VEx → Env → List Ob → Prop} {e : Env} {H : List Ob} : vwp P c_strings_IndexRune_k6 Q e H = vwp P (.seq (.block 4 (.seq (.draw 7 [⟨some 54, .p (.mov (.t 0)), none⟩,
    ⟨some 55, .p (.mov (.t 9)), none⟩,
    ⟨some 56, .p (.mov (.t 12)), none⟩,
    ⟨some 57, .p (.bin 3 .sub (.t 55) (.t 56)), none⟩,
    ⟨some 58, .p (.idxS (.t 54) (.t 57)), none⟩,
    ⟨some 59, .p (.mov (.t 7)), none⟩,
    ⟨some 60, .p (.mov (.t 8)), none⟩,
    ⟨some 61, .p (.mov (.t 12)), none⟩,
    ⟨some 62, .p (.bin 3 .sub (.t 60) (.t 61)), none⟩,
    ⟨some 63, .p (.idxS (.t 59) (.t 62)), none⟩,
    ⟨some 64, .p (.bin 5 .neq (.t 58) (.t 63)), none⟩] [0, 7, 8, 9, 12, 64])
  (.cond (.t 64)
  (.dead)
  (.skip))))
  (.ops [⟨some 52, .p (.mov (.t 12)), none⟩,
    ⟨some 53, .p (.bin 3 .add (.t 52) (.c (.int .i64 ((1 : Nat) : Int)))), none⟩,
    ⟨some 12, .p (.mov (.t 53)), none⟩] [0, 7, 8, 9, 12])) Q e H := by_refl rfl
theorem u_strings_IndexRune_L7_e {P : Program} {Q : VEx → Env → List Ob → Prop} {e : Env} {H : List Ob} : vwp P c_strings_IndexRune_L7 Q e H = vwp P (.seq (.seq (.ops [⟨some 48, .p (.mov (.t 12)), none⟩,
    ⟨some 49, .p (.mov (.t 7)), none⟩,
    ⟨some 50, .p (.lenS (.t 49)), none⟩,
    ⟨some 51, .p (.bin 3 .lss (.t 48) (.t 50)), none⟩] [0, 7, 8, 9, 12, 51])
  (.cond (.t 51)
  (.skip)
  (.exit 3)))
  c_strings_IndexRune_k6) Q e H := by_refl rfl
theorem u_strings_IndexRune_k8_e {P : Program} {Q : VEx → Env → List Ob → Prop} {e : Env} {H : List Ob} : vwp P c_strings_IndexRune_k8 Q e H = vwp P (.block 3 (.loop [0, 7, 8, 9, 12] c_strings_IndexRune_L7)) Q e H := by_refl rfl
theorem u_strings_IndexRune_k9_e {P : Program} {Q : VEx → Env → List Ob → Prop} {e : Env} {H : List Ob} : vwp P c_strings_IndexRune_k9 Q e H = vwp P (.seq (.ops [⟨some 72, .p (.mov (.c (.bool true))), none⟩,
    ⟨some 73, .p (.mov (.t 10)), some ⟨72, true⟩⟩,
    ⟨some 74, .p (.mov (.t 9)), some ⟨72, true⟩⟩,
    ⟨some 75, .s (.call 170 [.t 74]), some ⟨72, true⟩⟩,
    ⟨some 76, .p (.bin 3 .gtr (.t 73) (.t 75)), some ⟨72, true⟩⟩,
    ⟨some 77, .p (.pick (.t 72) (.t 76) (.c (.bool false))), none⟩,
    ⟨some 78, .p (.mov (.t 77)), none⟩,
    ⟨some 79, .p (.mov (.t 9)), some ⟨78, true⟩⟩,
    ⟨some 80, .p (.mov (.t 0)), some ⟨78, true⟩⟩,
    ⟨some 81, .p (.lenS (.t 80)), some ⟨78, true⟩⟩,
    ⟨some 82, .p (.bin 3 .lss (.t 79) (.t 81)), some ⟨78, true⟩⟩,
    ⟨some 83, .p (.pick (.t 78) (.t 82) (.c (.bool false))), none⟩,
    ⟨some 84, .p (.mov (.t 83)), none⟩,
    ⟨some 85, .p (.mov (.c (.bool false))), some ⟨84, false⟩⟩,
    ⟨some 86, .p (.mov (.t 10)), some ⟨85, true⟩⟩,
    ⟨some 87, .p (.mov (.t 9)), some ⟨85, true⟩⟩,
    ⟨some 88, .p (.bin 3 .shr (.t 87) (.c (.int .u64 ((4 : Nat) : Int)))), some ⟨85, true⟩⟩,
    ⟨some 89, .p (.bin 3 .add (.c (.int .i64 ((4 : Nat) : Int))) (.t 88)), some ⟨85, true⟩⟩,
    ⟨some 90, .p (.bin 3 .geq (.t 86) (.t 89)), some ⟨85, true⟩⟩,
    ⟨some 91, .p (.pick (.t 85) (.t 90) (.c (.bool false))), some ⟨84, false⟩⟩,
    ⟨some 92, .p (.mov (.t 91)), some ⟨84, false⟩⟩,
    ⟨some 93, .p (.mov (.t 9)), some ⟨92, true⟩⟩,
    ⟨some 94, .p (.mov (.t 0)), some ⟨92, true⟩⟩,
    ⟨some 95, .p (.lenS (.t 94)), some ⟨92, true⟩⟩,
    ⟨some 96, .p (.bin 3 .lss (.t 93) (.t 95)), some ⟨92, true⟩⟩,
    ⟨some 97, .p (.pick (.t 92) (.t 96) (.c (.bool false))), some ⟨84, false⟩⟩,
    ⟨some 98, .p (.pick (.t 84) (.c (.bool true)) (.t 97)), none⟩] [0, 7, 8, 9, 98])
  (.cond (.t 98)
  (.dead)
  (.skip))) Q e H := by_refl rfl
theorem u_strings_IndexRune_k10_e {P : Program} {Q : VEx → Env → List Ob → Prop} {e : Env} {H : List Ob} : vwp P c_strings_IndexRune_k10 Q e H = vwp P (.seq (.ops [⟨some 70, .p (.mov (.t 9)), none⟩,
    ⟨some 71, .p (.bin 3 .add (.t 70) (.c (.int .i64 ((1 : Nat) : Int)))), none⟩,
    ⟨some 9, .p (.mov (.t 71)), none⟩] [0, 7, 8, 9, 10])
  c_strings_IndexRune_k9) Q e H := by_refl rfl
theorem u_strings_IndexRune_k11_e {P : Program} {Q : VEx → Env → List Ob → Prop} {e : Env} {H : List Ob} : vwp P c_strings_IndexRune_k11 Q e H = vwp P (.seq (.ops [⟨some 68, .p (.mov (.t 10)), none⟩,
    ⟨some 69, .p (.bin 3 .add (.t 68) (.c (.int .i64 ((1 : Nat) : Int)))), none⟩,
    ⟨some 10, .p (.mov (.t 69)), none⟩] [0, 7, 8, 9, 10])
  c_strings_IndexRune_k10) Q e H := by_refl rfl
theorem u_strings_IndexRune_k12_e {P : Program} {Q : VEx → Env → List Ob → Prop} {e : Env} {H : List Ob} : vwp P c_strings_IndexRune_k12 Q e H = vwp P (.seq (.skip)
  c_strings_IndexRune_k11) Q e H := by_refl rfl
theorem u_strings_IndexRune_k13_e {P : Program} {Q : VEx → Env → List Ob → Prop} {e : Env} {H : List Ob} : vwp P c_strings_IndexRune_k13 Q e H = vwp P (.seq (.seq (.ops [⟨some 65, .p (.mov (.t 9)), none⟩,
    ⟨some 66, .p (.mov (.t 8)), none⟩,
    ⟨some 67, .p (.bin 3 .sub (.t 65) (.t 66)), none⟩,
    ⟨some 4, .p (.mov (.t 67)), none⟩] [4])
  (.ret))
  c_strings_IndexRune_k12) Q e H := by_refl rfl
theorem u_strings_IndexRune_k14_e {P : Program} {Q : VEx → Env → List Ob → Prop} {e : Env} {H : List Ob} : vwp P c_strings_IndexRune_k14 Q e H = vwp P (.seq (.seq (.ops [⟨some 12, .p (.mov (.c (.int .i64 ((1 : Nat) : Int)))), none⟩] [0, 7, 8, 9, 12])
  c_strings_IndexRune_k8)
  c_strings_IndexRune_k13) Q e H := by_refl rfl
theorem u_strings_IndexRune_k15_e {P : Program} {Q : VEx → Env → List Ob → Prop} {e : Env} {H : List Ob} : vwp P c_strings_IndexRune_k15 Q e H = vwp P (.block 2 (.scope (.seq (.seq (.draw 4 [⟨some 27, .p (.mov (.t 0)), none⟩,
    ⟨some 28, .p (.mov (.t 9)), none⟩,
    ⟨some 29, .p (.idxS (.t 27) (.t 28)), none⟩,
    ⟨some 30, .p (.mov (.t 7)), none⟩,
    ⟨some 31, .p (.mov (.t 8)), none⟩,
    ⟨some 32, .p (.idxS (.t 30) (.t 31)), none⟩,
    ⟨some 33, .p (.bin 5 .neq (.t 29) (.t 32)), none⟩] [0, 7, 8, 9, 33])
  c_strings_IndexRune_k5)
  c_strings_IndexRune_k14))) Q e H := by_refl rfl
theorem u_strings_IndexRune_L16_e {P : Program} {Q : VEx → Env → List Ob → Prop} {e : Env} {H : List Ob} : vwp P c_strings_IndexRune_L16 Q e H = vwp P (.seq (.seq (.ops [⟨some 23, .p (.mov (.t 9)), none⟩,
    ⟨some 24, .p (.mov (.t 0)), none⟩,
    ⟨some 25, .p (.lenS (.t 24)), none⟩,
    ⟨some 26, .p (.bin 3 .lss (.t 23) (.t 25)), none⟩] [0, 7, 8, 9, 26])
  (.cond (.t 26)
  (.skip)
  (.exit 1)))
  c_strings_IndexRune_k15) Q e H := by_refl rfl
theorem u_strings_IndexRune_b17_e {P : Program} {Q : VEx → Env → List Ob → Prop} {e : Env} {H : List Ob} : vwp P c_strings_IndexRune_b17 Q e H = vwp P (.seq (.dead)
  (.seq (.ops [⟨some 107, .p (.mov (.t 13)), none⟩,
    ⟨some 108, .p (.bin 3 .geq (.t 107) (.c (.int .i64 ((0 : Nat) : Int)))), none⟩] [8, 9, 13, 108])
  (.cond (.t 108)
  (.seq (.ops [⟨some 109, .p (.mov (.t 9)), none⟩,
      ⟨some 110, .p (.mov (.t 13)), none⟩,
      ⟨some 111, .p (.bin 3 .add (.t 109) (.t 110)), none⟩,
      ⟨some 112, .p (.mov (.t 8)), none⟩,
      ⟨some 113, .p (.bin 3 .sub (.t 111) (.t 112)), none⟩,
      ⟨some 4, .p (.mov (.t 113)), none⟩] [4])
    (.ret))
  (.skip)))) Q e H := by_refl rfl
theorem u_strings_IndexRune_k18_e {P : Program} {Q : VEx → Env → List Ob → Prop} {e : Env} {H : List Ob} : vwp P c_strings_IndexRune_k18 Q e H = vwp P (.seq (.block 8 (.seq (.draw 7 [⟨some 146, .p (.mov (.t 0)), none⟩,
    ⟨some 147, .p (.mov (.t 9)), none⟩,
    ⟨some 148, .p (.mov (.t 16)), none⟩,
    ⟨some 149, .p (.bin 3 .sub (.t 147) (.t 148)), none⟩,
    ⟨some 150, .p (.idxS (.t 146) (.t 149)), none⟩,
    ⟨some 151, .p (.mov (.t 7)), none⟩,
    ⟨some 152, .p (.mov (.t 8)), none⟩,
    ⟨some 153, .p (.mov (.t 16)), none⟩,
    ⟨some 154, .p (.bin 3 .sub (.t 152) (.t 153)), none⟩,
    ⟨some 155, .p (.idxS (.t 151) (.t 154)), none⟩,
    ⟨some 156, .p (.bin 5 .neq (.t 150) (.t 155)), none⟩] [0, 7, 8, 9, 14, 15, 16, 156])
  (.cond (.t 156)
  (.exit 6)
  (.skip))))
  (.ops [⟨some 144, .p (.mov (.t 16)), none⟩,
    ⟨some 145, .p (.bin 3 .add (.t 144) (.c (.int .i64 ((1 : Nat) : Int)))), none⟩,
    ⟨some 16, .p (.mov (.t 145)), none⟩] [0, 7, 8, 9, 14, 15, 16])) Q e H := by_refl rfl
theorem u_strings_IndexRune_L19_e {P : Program} {Q : VEx → Env → List Ob → Prop} {e : Env} {H : List Ob} : vwp P c_strings_IndexRune_L19 Q e H = vwp P (.seq (.seq (.ops [⟨some 140, .p (.mov (.t 16)), none⟩,
    ⟨some 141, .p (.mov (.t 7)), none⟩,
    ⟨some 142, .p (.lenS (.t 141)), none⟩,
    ⟨some 143, .p (.bin 3 .lss (.t 140) (.t 142)), none⟩] [0, 7, 8, 9, 14, 15, 16, 143])
  (.cond (.t 143)
  (.skip)
  (.exit 7)))
  c_strings_IndexRune_k18) Q e H := by_refl rfl
theorem u_strings_IndexRune_k20_e {P : Program} {Q : VEx → Env → List Ob → Prop} {e : Env} {H : List Ob} : vwp P c_strings_IndexRune_k20 Q e H = vwp P (.block 7 (.loop [0, 7, 8, 9, 14, 15, 16] c_strings_IndexRune_L19)) Q e H := by_refl rfl
theorem u_strings_IndexRune_k21_e {P : Program} {Q : VEx → Env → List Ob → Prop} {e : Env} {H : List Ob} : vwp P c_strings_IndexRune_k21 Q e H = vwp P (.seq (.ops [⟨some 157, .p (.mov (.t 9)), none⟩,
    ⟨some 158, .p (.mov (.t 8)), none⟩,
    ⟨some 159, .p (.bin 3 .sub (.t 157) (.t 158)), none⟩,
    ⟨some 4, .p (.mov (.t 159)), none⟩] [4])
  (.ret)) Q e H := by_refl rfl
theorem u_strings_IndexRune_b22_e {P : Program} {Q : VEx → Env → List Ob → Prop} {e : Env} {H : List Ob} : vwp P c_strings_IndexRune_b22 Q e H = vwp P (.seq (.seq (.ops [⟨some 16, .p (.mov (.c (.int .i64 ((2 : Nat) : Int)))), none⟩] [0, 7, 8, 9, 14, 15, 16])
  c_strings_IndexRune_k20)
  c_strings_IndexRune_k21) Q e H := by_refl rfl
theorem u_strings_IndexRune_k23_e {P : Program} {Q : VEx → Env → List Ob → Prop} {e : Env} {H : List Ob} : vwp P c_strings_IndexRune_k23 Q e H = vwp P (.cond (.t 139)
  c_strings_IndexRune_b22
  (.skip)) Q e H := by_refl rfl
theorem u_strings_IndexRune_k24_e {P : Program} {Q : VEx → Env → List Ob → Prop} {e : Env} {H : List Ob} : vwp P c_strings_IndexRune_k24 Q e H = vwp P (.ops [⟨some 125, .p (.mov (.t 9)), none⟩,
    ⟨some 126, .p (.bin 3 .add (.t 125) (.c (.int .i64 ((1 : Nat) : Int)))), none⟩,
    ⟨some 9, .p (.mov (.t 126)), none⟩] [0, 7, 8, 9, 14, 15]) Q e H := by_refl rfl
theorem u_strings_IndexRune_k25_e {P : Program} {Q : VEx → Env → List Ob → Prop} {e : Env} {H : List Ob} : vwp P c_strings_IndexRune_k25 Q e H = vwp P (.seq (.block 6 (.seq (.ops [⟨some 127, .p (.mov (.t 0)), none⟩,
    ⟨some 128, .p (.mov (.t 9)), none⟩,
    ⟨some 129, .p (.idxS (.t 127) (.t 128)), none⟩,
    ⟨some 130, .p (.mov (.t 14)), none⟩,
    ⟨some 131, .p (.bin 5 .eql (.t 129) (.t 130)), none⟩,
    ⟨some 132, .p (.mov (.t 131)), none⟩,
    ⟨some 133, .p (.mov (.t 0)), some ⟨132, true⟩⟩,
    ⟨some 134, .p (.mov (.t 9)), some ⟨132, true⟩⟩,
    ⟨some 135, .p (.bin 3 .sub (.t 134) (.c (.int .i64 ((1 : Nat) : Int)))), some ⟨132, true⟩⟩,
    ⟨some 136, .p (.idxS (.t 133) (.t 135)), some ⟨132, true⟩⟩,
    ⟨some 137, .p (.mov (.t 15)), some ⟨132, true⟩⟩,
    ⟨some 138, .p (.bin 5 .eql (.t 136) (.t 137)), some ⟨132, true⟩⟩,
    ⟨some 139, .p (.pick (.t 132) (.t 138) (.c (.bool false))), none⟩] [0, 7, 8, 9, 14, 15, 139])
  c_strings_IndexRune_k23))
  c_strings_IndexRune_k24) Q e H := by_refl rfl
theorem u_strings_IndexRune_L26_e {P : Program} {Q : VEx → Env → List Ob → Prop} {e : Env} {H : List Ob} : vwp P c_strings_IndexRune_L26 Q e H = vwp P (.seq (.seq (.ops [⟨some 121, .p (.mov (.t 9)), none⟩,
    ⟨some 122, .p (.mov (.t 0)), none⟩,
    ⟨some 123, .p (.lenS (.t 122)), none⟩,
    ⟨some 124, .p (.bin 3 .lss (.t 121) (.t 123)), none⟩] [0, 7, 8, 9, 14, 15, 124])
  (.cond (.t 124)
  (.skip)
  (.exit 5)))
  c_strings_IndexRune_k25) Q e H := by_refl rfl
theorem u_strings_IndexRune_k27_e {P : Program} {Q : VEx → Env → List Ob → Prop} {e : Env} {H : List Ob} : vwp P c_strings_IndexRune_k27 Q e H = vwp P (.block 5 (.loop [0, 7, 8, 9, 14, 15] c_strings_IndexRune_L26)) Q e H := by_refl rfl
theorem u_strings_IndexRune_k28_e {P : Program} {Q : VEx → Env → List Ob → Prop} {e : Env} {H : List Ob} : vwp P c_strings_IndexRune_k28 Q e H = vwp P (.seq (.skip)
  c_strings_IndexRune_k27) Q e H := by_refl rfl
theorem u_strings_IndexRune_k29_e {P : Program} {Q : VEx → Env → List Ob → Prop} {e : Env} {H : List Ob} : vwp P c_strings_IndexRune_k29 Q e H = vwp P (.seq (.ops [⟨some 117, .p (.mov (.t 7)), none⟩,
    ⟨some 118, .p (.mov (.t 8)), none⟩,
    ⟨some 119, .p (.bin 3 .sub (.t 118) (.c (.int .i64 ((1 : Nat) : Int)))), none⟩,
    ⟨some 120, .p (.idxS (.t 117) (.t 119)), none⟩,
    ⟨some 15, .p (.mov (.t 120)), none⟩] [0, 7, 8, 9, 14, 15])
  c_strings_IndexRune_k28) Q e H := by_refl rfl
theorem u_strings_IndexRune_b30_e {P : Program} {Q : VEx → Env → List Ob → Prop} {e : Env} {H : List Ob} : vwp P c_strings_IndexRune_b30 Q e H = vwp P (.scope (.seq (.ops [⟨some 114, .p (.mov (.t 7)), none⟩,
    ⟨some 115, .p (.mov (.t 8)), none⟩,
    ⟨some 116, .p (.idxS (.t 114) (.t 115)), none⟩,
    ⟨some 14, .p (.mov (.t 116)), none⟩] [0, 7, 8, 9, 14])
  c_strings_IndexRune_k29)) Q e H := by_refl rfl
theorem u_strings_IndexRune_k31_e {P : Program} {Q : VEx → Env → List Ob → Prop} {e : Env} {H : List Ob} : vwp P c_strings_IndexRune_k31 Q e H = vwp P (.seq (.ops [⟨some 4, .p (.mov (.c (.int .i64 (-1)))), none⟩] [4])
  (.ret)) Q e H := by_refl rfl
theorem u_strings_IndexRune_k32_e {P : Program} {Q : VEx → Env → List Ob → Prop} {e : Env} {H : List Ob} : vwp P c_strings_IndexRune_k32 Q e H = vwp P (.seq (.cond (.c (.bool true))
  c_strings_IndexRune_b17
  c_strings_IndexRune_b30)
  c_strings_IndexRune_k31) Q e H := by_refl rfl
theorem u_strings_IndexRune_k33_e {P : Program} {Q : VEx → Env → List Ob → Prop} {e : Env} {H : List Ob} : vwp P c_strings_IndexRune_k33 Q e H = vwp P (.seq (.skip)
  c_strings_IndexRune_k32) Q e H := by_refl rfl
theorem u_strings_IndexRune_k34_e {P : Program} {Q : VEx → Env → List Ob → Prop} {e : Env} {H : List Ob} : vwp P c_strings_IndexRune_k34 Q e H = vwp P (.seq (.seq (.ops [⟨some 4, .p (.mov (.c (.int .i64 (-1)))), none⟩] [4])
  (.ret))
  c_strings_IndexRune_k33) Q e H := by_refl rfl
theorem u_strings_IndexRune_k35_e {P : Program} {Q : VEx → Env → List Ob → Prop} {e : Env} {H : List Ob} : vwp P c_strings_IndexRune_k35 Q e H = vwp P (.seq (.block 1 (.loop [0, 7, 8, 9] c_strings_IndexRune_L16))
  c_strings_IndexRune_k34) Q e H := by_refl rfl
theorem u_strings_IndexRune_k36_e {P : Program} {Q : VEx → Env → List Ob → Prop} {e : Env} {H : List Ob} : vwp P c_strings_IndexRune_k36 Q e H = vwp P (.seq (.ops [⟨some 10, .p (.mov (.c (.int .i64 ((0 : Nat) : Int)))), none⟩] [0, 7, 8, 9])
  c_strings_IndexRune_k35) Q e H := by_refl rfl
theorem u_strings_IndexRune_k37_e {P : Program} {Q : VEx → Env → List Ob → Prop} {e : Env} {H : List Ob} : vwp P c_strings_IndexRune_k37 Q e H = vwp P (.seq (.ops [⟨some 22, .p (.mov (.t 8)), none⟩,
    ⟨some 9, .p (.mov (.t 22)), none⟩] [0, 7, 8, 9])
  c_strings_IndexRune_k36) Q e H := by_refl rfl
theorem u_strings_IndexRune_k38_e {P : Program} {Q : VEx → Env → List Ob → Prop} {e : Env} {H : List Ob} : vwp P c_strings_IndexRune_k38 Q e H = vwp P (.seq (.ops [⟨some 19, .p (.mov (.t 7)), none⟩,
    ⟨some 20, .p (.lenS (.t 19)), none⟩,
    ⟨some 21, .p (.bin 3 .sub (.t 20) (.c (.int .i64 ((1 : Nat) : Int)))), none⟩,
    ⟨some 8, .p (.mov (.t 21)), none⟩] [0, 7, 8])
  c_strings_IndexRune_k37) Q e H := by_refl rfl
theorem u_strings_IndexRune_b39_e {P : Program} {Q : VEx → Env → List Ob → Prop} {e : Env} {H : List Ob} : vwp P c_strings_IndexRune_b39 Q e H = vwp P (.scope (.seq (.ops [⟨some 17, .p (.mov (.t 1)), none⟩,
    ⟨some 18, .p (.gen .r2s [.t 17]), none⟩,
    ⟨some 7, .p (.mov (.t 18)), none⟩] [0, 7])
  c_strings_IndexRune_k38)) Q e H := by_refl rfl
theorem u_strings_IndexRune_k40_e {P : Program} {Q : VEx → Env → List Ob → Prop} {e : Env} {H : List Ob} : vwp P c_strings_IndexRune_k40 Q e H = vwp P (.cond (.t 183)
  (.seq (.ops [⟨some 4, .p (.mov (.c (.int .i64 (-1)))), none⟩] [4])
    (.ret))
  c_strings_IndexRune_b39) Q e H := by_refl rfl
theorem u_strings_IndexRune_b41_e {P : Program} {Q : VEx → Env → List Ob → Prop} {e : Env} {H : List Ob} : vwp P c_strings_IndexRune_b41 Q e H = vwp P (.seq (.ops [⟨some 184, .p (.mov (.t 1)), none⟩,
    ⟨some 185, .s (.call 169 [.t 184]), none⟩,
    ⟨some 186, .p (.un .not (.t 185)), none⟩,
    ⟨some 183, .p (.mov (.t 186)), none⟩] [0, 1, 183])
  c_strings_IndexRune_k40) Q e H := by_refl rfl
theorem u_strings_IndexRune_k42_e {P : Program} {Q : VEx → Env → List Ob → Prop} {e : Env} {H : List Ob} : vwp P c_strings_IndexRune_k42 Q e H = vwp P (.cond (.t 171)
  c_strings_IndexRune_b3
  c_strings_IndexRune_b41) Q e H := by_refl rfl
theorem u_strings_IndexRune_b43_e {P : Program} {Q : VEx → Env → List Ob → Prop} {e : Env} {H : List Ob} : vwp P c_strings_IndexRune_b43 Q e H = vwp P (.seq (.ops [⟨some 172, .p (.mov (.t 1)), none⟩,
    ⟨some 173, .p (.bin 21 .eql (.t 172) (.c (.int .i32 ((65533 : Nat) : Int)))), none⟩,
    ⟨some 171, .p (.mov (.t 173)), none⟩] [0, 1, 171])
  c_strings_IndexRune_k42) Q e H := by_refl rfl
theorem u_strings_IndexRune_k44_e {P : Program} {Q : VEx → Env → List Ob → Prop} {e : Env} {H : List Ob} : vwp P c_strings_IndexRune_k44 Q e H = vwp P (.cond (.t 160)
  (.seq (.ops [⟨some 167, .p (.mov (.t 0)), none⟩,
      ⟨some 168, .p (.mov (.t 1)), none⟩,
      ⟨some 169, .p (.conv .u8 (.t 168)), none⟩,
      ⟨some 170, .s (.call 168 [.t 167, .t 169]), none⟩,
      ⟨some 4, .p (.mov (.t 170)), none⟩] [4])
    (.ret))
  c_strings_IndexRune_b43) Q e H := by_refl rfl
theorem u_strings_IndexRune_k45_e {P : Program} {Q : VEx → Env → List Ob → Prop} {e : Env} {H : List Ob} : vwp P c_strings_IndexRune_k45 Q e H = vwp P (.block 0 (.seq (.ops [⟨some 161, .p (.mov (.t 1)), none⟩,
    ⟨some 162, .p (.bin 21 .leq (.c (.int .i32 ((0 : Nat) : Int))) (.t 161)), none⟩,
    ⟨some 163, .p (.mov (.t 162)), none⟩,
    ⟨some 164, .p (.mov (.t 1)), some ⟨163, true⟩⟩,
    ⟨some 165, .p (.bin 21 .lss (.t 164) (.c (.int .i32 ((128 : Nat) : Int)))), some ⟨163, true⟩⟩,
    ⟨some 166, .p (.pick (.t 163) (.t 165) (.c (.bool false))), none⟩,
    ⟨some 160, .p (.mov (.t 166)), none⟩] [0, 1, 160])
  c_strings_IndexRune_k44)) Q e H := by_refl rfl
theorem u_strings_IndexRune_e {P : Program} {Q : VEx → Env → List Ob → Prop} {e : Env} {H : List Ob} : vwp P c_strings_IndexRune Q e H = vwp P (.seq (.ops [⟨some 4, .p (.mov (.c (.int .i64 ((0 : Nat) : Int)))), none⟩] [0, 1])
  c_strings_IndexRune_k45) Q e H := by_refl rfl
theorem u_strings_IndexRune_r {K : TV → Prop} {e : Env} {H : List Ob} : res r_strings_IndexRune e H K = res [.tmp 4] e H K := by_refl rfl
def u_strings_IndexRune := (And.intro (And.intro (And.intro (And.intro (And.intro (And.intro @u_strings_IndexRune_L1_e @u_strings_IndexRune_k2_e) (And.intro @u_strings_IndexRune_b3_e @u_strings_IndexRune_b4_e)) (And.intro (And.intro @u_strings_IndexRune_k5_e @u_strings_IndexRune_k6_e) (And.intro @u_strings_IndexRune_L7_e @u_strings_IndexRune_k8_e))) (And.intro (And.intro (And.intro @u_strings_IndexRune_k9_e @u_strings_IndexRune_k10_e) (And.intro @u_strings_IndexRune_k11_e @u_strings_IndexRune_k12_e)) (And.intro (And.intro @u_strings_IndexRune_k13_e @u_strings_IndexRune_k14_e) (And.intro @u_strings_IndexRune_k15_e @u_strings_IndexRune_L16_e)))) (And.intro (And.intro (And.intro (And.intro @u_strings_IndexRune_b17_e @u_strings_IndexRune_k18_e) (And.intro @u_strings_IndexRune_L19_e @u_strings_IndexRune_k20_e)) (And.intro (And.intro @u_strings_IndexRune_k21_e @u_strings_IndexRune_b22_e) (And.intro @u_strings_IndexRune_k23_e @u_strings_IndexRune_k24_e))) (And.intro (And.intro (And.intro @u_strings_IndexRune_k25_e @u_strings_IndexRune_L26_e) (And.intro @u_strings_IndexRune_k27_e @u_strings_IndexRune_k28_e)) (And.intro (And.intro @u_strings_IndexRune_k29_e @u_strings_IndexRune_b30_e) (And.intro @u_strings_IndexRune_k31_e @u_strings_IndexRune_k32_e))))) (And.intro (And.intro (And.intro (And.intro @u_strings_IndexRune_k33_e @u_strings_IndexRune_k34_e) (And.intro @u_strings_IndexRune_k35_e @u_strings_IndexRune_k36_e)) (And.intro (And.intro @u_strings_IndexRune_k37_e @u_strings_IndexRune_k38_e) (And.intro @u_strings_IndexRune_b39_e @u_strings_IndexRune_k40_e))) (And.intro (And.intro (And.intro @u_strings_IndexRune_b41_e @u_strings_IndexRune_k42_e) (And.intro @u_strings_IndexRune_b43_e @u_strings_IndexRune_k44_e)) (And.intro (And.intro @u_strings_IndexRune_k45_e @u_strings_IndexRune_e) @u_strings_IndexRune_r))))
theorem go_strings_IndexRune {args : List TV} {H : List Ob} {R : TV → List Ob → Prop} (hn : args.length ≤ 187) (h : vwp Tryd.prog c_strings_IndexRune (atEnd r_strings_IndexRune R) (argsE 0 args) H) : VCalls Tryd.prog 108 args H R := vcalls_of Tryd.func108 t_strings_IndexRune w_strings_IndexRune hn h

/-! strings.shouldUseASCIISet -/
def c_strings_shouldUseASCIISet : VCode := .seq (.ops [⟨some 2, .p (.mov (.c (.bool false))), none⟩] [0])
  (.seq (.ops [⟨some 3, .p (.mov (.t 0)), none⟩,
    ⟨some 4, .p (.bin 3 .gtr (.t 3) (.c (.int .i64 ((8 : Nat) : Int)))), none⟩,
    ⟨some 2, .p (.mov (.t 4)), none⟩] [2])
  (.ret))
def r_strings_shouldUseASCIISet : List VR := [.tmp 2]
theorem t_strings_shouldUseASCIISet : Tryd.f202.body.bind (trC Tryd.prog Tryd.f202.ntmps) = some (er c_strings_shouldUseASCIISet) := by kernel_rfl
theorem w_strings_shouldUseASCIISet : trR Tryd.prog Tryd.f202.results.toList = some r_strings_shouldUseASCIISet := by kernel_rfl
theorem u_strings_shouldUseASCIISet_e {P : Program} {Q : VEx → Env → List Ob → Prop} {e : Env} {H : List Ob} : vwp P c_strings_shouldUseASCIISet Q e H = vwp P (.seq (.ops [⟨some 2, .p (.mov (.c (.bool false))), none⟩] [0])
  (.seq (.ops [⟨some 3, .p (.mov (.t 0)), none⟩,
    ⟨some 4, .p (.bin 3 .gtr (.t 3) (.c (.int .i64 ((8 : Nat) : Int)))), none⟩,
    ⟨some 2, .p (.mov (.t 4)), none⟩] [2])
  (.ret))) Q e H := by_refl rfl
theorem u_strings_shouldUseASCIISet_r {K : TV → Prop} {e : Env} {H : List Ob} : res r_strings_shouldUseASCIISet e H K = res [.tmp 2] e H K := by_refl rfl
def u_strings_shouldUseASCIISet := (And.intro @u_strings_shouldUseASCIISet_e @u_strings_shouldUseASCIISet_r)
theorem go_strings_shouldUseASCIISet {args : List TV} {H : List Ob} {R : TV → List Ob → Prop} (hn : args.length ≤ 5) (h : vwp Tryd.prog c_strings_shouldUseASCIISet (atEnd r_strings_shouldUseASCIISet R) (argsE 0 args) H) : VCalls Tryd.prog 202 args H R := vcalls_of Tryd.func202 t_strings_shouldUseASCIISet w_strings_shouldUseASCIISet hn h

end Go.Proofs.YtijidndhlgbjhaaDoor
