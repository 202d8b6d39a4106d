/- The code of some functions, as the machine of values has it: printed by vm.py out of the program; each is the program's own (t_..: by the kernel). -/
import Derived.Test.YtknphdcjopaaoaaVmO
import Derived.Test.YtknphdcjopaaoaaProg
import Derived.KernelRfl
namespace Go.Proofs.Ytknphdcjopaaoaa
set_option linter.unusedVariables false
set_option linter.defProp false
set_option maxRecDepth 100000

/-! gitlike/merge.newSide -/
def c_merge_newSide_k1 : VCode := .seq (.ops [⟨some 23, .p (.fieldA 0 0 (.t 5)), none⟩,
    ⟨some 24, .p (.load false 1 (.t 23)), none⟩,
    ⟨some 25, .p (.fieldA 0 0 (.t 8)), none⟩,
    ⟨some 26, .p (.load false 1 (.t 25)), none⟩,
    ⟨some 27, .p (.bin 61 .eql (.t 26) (.c (.int .i64 ((0 : Nat) : Int)))), none⟩,
    ⟨some 28, .s (.bslice 1 1 (.val (.bool false)) [⟨0, .t 27⟩]), none⟩,
    ⟨some 29, .s (.app 1 1 4 (.t 24) (.t 28)), none⟩,
    ⟨some 30, .p (.fieldA 0 0 (.t 5)), none⟩,
    ⟨none, .s (.store 1 (.t 30) (.t 29)), none⟩] [4, 5, 6, 11, 12, 13])
  (.seq (.draw 2 [⟨some 31, .p (.fieldA 1 1 (.t 5)), none⟩,
    ⟨some 32, .p (.load false 1 (.t 31)), none⟩,
    ⟨some 33, .s (.bstr 42 (.t 6)), none⟩,
    ⟨some 34, .s (.bslice 1 1 (.val (.string (str []))) [⟨0, .t 33⟩]), none⟩,
    ⟨some 35, .s (.app 1 16 9 (.t 32) (.t 34)), none⟩,
    ⟨some 36, .p (.fieldA 1 1 (.t 5)), none⟩,
    ⟨none, .s (.store 1 (.t 36) (.t 35)), none⟩] [4, 5, 6, 11, 12, 13])
  (.ops [⟨some 37, .s (.call 51 [.t 6]), none⟩] [4, 5, 6, 11, 12, 13]))
def c_merge_newSide_k2 : VCode := .seq (.seq (.ops [⟨some 17, .p (.fieldA 0 0 (.t 8)), none⟩,
    ⟨some 18, .p (.load false 1 (.t 17)), none⟩,
    ⟨some 19, .p (.bin 61 .eql (.t 18) (.c (.int .i64 ((2 : Nat) : Int)))), none⟩] [4, 5, 6, 8, 11, 12, 13, 19])
  (.cond (.t 19)
  (.seq (.ops [⟨some 20, .p (.fieldA 1 1 (.t 8)), none⟩,
      ⟨some 21, .p (.load false 1 (.t 20)), none⟩,
      ⟨some 22, .s (.call 41 [.t 6, .t 21]), none⟩] [4, 5, 6, 11, 12, 13])
    (.exit 1))
  (.skip)))
  c_merge_newSide_k1
def c_merge_newSide_k3 : VCode := .seq (.block 1 (.seq (.ops [⟨some 15, .p (.idxA 2 (.t 11) (.t 13)), none⟩,
    ⟨some 16, .p (.load true 2 (.t 15)), none⟩,
    ⟨some 8, .s (.alloc (.agg [.val (.int .i64 ((0 : Nat) : Int)), .val (.string (str []))])), none⟩,
    ⟨none, .s (.store 2 (.t 8) (.t 16)), none⟩] [4, 5, 6, 8, 11, 12, 13])
  c_merge_newSide_k2))
  (.ops [⟨some 38, .p (.bin 3 .add (.t 13) (.c (.int .i64 ((1 : Nat) : Int)))), none⟩,
    ⟨some 13, .p (.mov (.t 38)), none⟩] [4, 5, 6, 11, 12, 13])
def c_merge_newSide_k4 : VCode := .seq (.cond (.t 14)
  (.skip)
  (.exit 0))
  c_merge_newSide_k3
def c_merge_newSide_L5 : VCode := .ownT 6 [(1, 1)] 5 (.seq (.ops [⟨some 14, .p (.bin 3 .lss (.t 13) (.t 12)), none⟩] [4, 5, 6, 11, 12, 13, 14])
  c_merge_newSide_k4)
def c_merge_newSide_k6 : VCode := .block 0 (.ownB 5 [(1, 1)] 1 (.ownB 5 [(0, 0)] 1 (.loop [4, 5, 6, 11, 12, 13] c_merge_newSide_L5)))
def c_merge_newSide_k7 : VCode := .ownT 6 [(1, 1)] 5 (.seq (.draw 2 [⟨some 39, .p (.fieldA 1 1 (.t 5)), none⟩,
    ⟨some 40, .p (.load false 1 (.t 39)), none⟩,
    ⟨some 41, .s (.bstr 42 (.t 6)), none⟩,
    ⟨some 42, .s (.bslice 1 1 (.val (.string (str []))) [⟨0, .t 41⟩]), none⟩,
    ⟨some 43, .s (.app 1 16 9 (.t 40) (.t 42)), none⟩,
    ⟨some 44, .p (.fieldA 1 1 (.t 5)), none⟩,
    ⟨none, .s (.store 1 (.t 44) (.t 43)), none⟩] [4, 5])
  (.seq (.ops [⟨some 45, .p (.load true 2 (.t 5)), none⟩,
    ⟨none, .s (.store 2 (.t 4) (.t 45)), none⟩] [4])
  (.ret)))
def c_merge_newSide_k8 : VCode := .seq (.seq (.ops [⟨some 9, .p (.mov (.t 0)), none⟩,
    ⟨some 10, .p (.mov (.t 1)), none⟩,
    ⟨some 11, .s (.call 24 [.t 9, .t 10]), none⟩,
    ⟨some 12, .p (.lenV (.t 11)), none⟩,
    ⟨some 13, .p (.mov (.c (.int .i64 ((0 : Nat) : Int)))), none⟩] [4, 5, 6, 11, 12, 13])
  c_merge_newSide_k6)
  c_merge_newSide_k7
def c_merge_newSide_k9 : VCode := .seq (.ops [⟨some 6, .s (.allocT (.agg [.val (.pointer none), .val (.slice none 0 0)]) 78), none⟩] [0, 1, 4, 5, 6])
  c_merge_newSide_k8
def c_merge_newSide_k10 : VCode := .seq (.ops [⟨some 5, .s (.alloc (.agg [.val (.slice none 0 0), .val (.slice none 0 0)])), none⟩] [0, 1, 4, 5])
  c_merge_newSide_k9
def c_merge_newSide : VCode := .seq (.ops [⟨some 4, .s (.alloc (.agg [.val (.slice none 0 0), .val (.slice none 0 0)])), none⟩] [0, 1, 4])
  c_merge_newSide_k10
def r_merge_newSide : List VR := [.cell 4 true 2]
theorem t_merge_newSide : Try.f38.body.bind (trC Try.prog Try.f38.ntmps) = some (er c_merge_newSide) := by kernel_rfl
theorem w_merge_newSide : trR Try.prog Try.f38.results.toList = some r_merge_newSide := by kernel_rfl
theorem u_merge_newSide_k1_e {P : Program} {Q : VEx → Env → List Ob → Prop} {e : Env} {H : List Ob} : vwp P c_merge_newSide_k1 Q e H = vwp P (.seq (.ops [⟨some 23, .p (.fieldA 0 0 (.t 5)), none⟩,
    ⟨some 24, .p (.load false 1 (.t 23)), none⟩,
    ⟨some 25, .p (.fieldA 0 0 (.t 8)), none⟩,
    ⟨some 26, .p (.load false 1 (.t 25)), none⟩,
    ⟨some 27, .p (.bin 61 .eql (.t 26) (.c (.int .i64 ((0 : Nat) : Int)))), none⟩,
    ⟨some 28, .s (.bslice 1 1 (.val (.bool false)) [⟨0, .t 27⟩]), none⟩,
    ⟨some 29, .s (.app 1 1 4 (.t 24) (.t 28)), none⟩,
    ⟨some 30, .p (.fieldA 0 0 (.t 5)), none⟩,
    ⟨none, .s (.store 1 (.t 30) (.t 29)), none⟩] [4, 5, 6, 11, 12, 13])
  (.seq (.draw 2 [⟨some 31, .p (.fieldA 1 1 (.t 5)), none⟩,
    ⟨some 32, .p (.load false 1 (.t 31)), none⟩,
    ⟨some 33, .s (.bstr 42 (.t 6)), none⟩,
    ⟨some 34, .s (.bslice 1 1 (.val (.string (str []))) [⟨0, .t 33⟩]), none⟩,
    ⟨some 35, .s (.app 1 16 9 (.t 32) (.t 34)), none⟩,
    ⟨some 36, .p (.fieldA 1 1 (.t 5)), none⟩,
    ⟨none, .s (.store 1 (.t 36) (.t 35)), none⟩] [4, 5, 6, 11, 12, 13])
  (.ops [⟨some 37, .s (.call 51 [.t 6]), none⟩] [4, 5, 6, 11, 12, 13]))) Q e H := by_refl rfl
theorem u_merge_newSide_k2_e {P : Program} {Q : VEx → Env → List Ob → Prop} {e : Env} {H : List Ob} : vwp P c_merge_newSide_k2 Q e H = vwp P (.seq (.seq (.ops [⟨some 17, .p (.fieldA 0 0 (.t 8)), none⟩,
    ⟨some 18, .p (.load false 1 (.t 17)), none⟩,
    ⟨some 19, .p (.bin 61 .eql (.t 18) (.c (.int .i64 ((2 : Nat) : Int)))), none⟩] [4, 5, 6, 8, 11, 12, 13, 19])
  (.cond (.t 19)
  (.seq (.ops [⟨some 20, .p (.fieldA 1 1 (.t 8)), none⟩,
      ⟨some 21, .p (.load false 1 (.t 20)), none⟩,
      ⟨some 22, .s (.call 41 [.t 6, .t 21]), none⟩] [4, 5, 6, 11, 12, 13])
    (.exit 1))
  (.skip)))
  c_merge_newSide_k1) Q e H := by_refl rfl
theorem u_merge_newSide_k3_e {P : Program} {Q : VEx → Env → List Ob → Prop} {e : Env} {H : List Ob} : vwp P c_merge_newSide_k3 Q e H = vwp P (.seq (.block 1 (.seq (.ops [⟨some 15, .p (.idxA 2 (.t 11) (.t 13)), none⟩,
    ⟨some 16, .p (.load true 2 (.t 15)), none⟩,
    ⟨some 8, .s (.alloc (.agg [.val (.int .i64 ((0 : Nat) : Int)), .val (.string (str []))])), none⟩,
    ⟨none, .s (.store 2 (.t 8) (.t 16)), none⟩] [4, 5, 6, 8, 11, 12, 13])
  c_merge_newSide_k2))
  (.ops [⟨some 38, .p (.bin 3 .add (.t 13) (.c (.int .i64 ((1 : Nat) : Int)))), none⟩,
    ⟨some 13, .p (.mov (.t 38)), none⟩] [4, 5, 6, 11, 12, 13])) Q e H := by_refl rfl
theorem u_merge_newSide_k4_e {P : Program} {Q : VEx → Env → List Ob → Prop} {e : Env} {H : List Ob} : vwp P c_merge_newSide_k4 Q e H = vwp P (.seq (.cond (.t 14)
  (.skip)
  (.exit 0))
  c_merge_newSide_k3) Q e H := by_refl rfl
theorem u_merge_newSide_L5_e {P : Program} {Q : VEx → Env → List Ob → Prop} {e : Env} {H : List Ob} : vwp P c_merge_newSide_L5 Q e H = vwp P (.ownT 6 [(1, 1)] 5 (.seq (.ops [⟨some 14, .p (.bin 3 .lss (.t 13) (.t 12)), none⟩] [4, 5, 6, 11, 12, 13, 14])
  c_merge_newSide_k4)) Q e H := by_refl rfl
theorem u_merge_newSide_k6_e {P : Program} {Q : VEx → Env → List Ob → Prop} {e : Env} {H : List Ob} : vwp P c_merge_newSide_k6 Q e H = vwp P (.block 0 (.ownB 5 [(1, 1)] 1 (.ownB 5 [(0, 0)] 1 (.loop [4, 5, 6, 11, 12, 13] c_merge_newSide_L5)))) Q e H := by_refl rfl
theorem u_merge_newSide_k7_e {P : Program} {Q : VEx → Env → List Ob → Prop} {e : Env} {H : List Ob} : vwp P c_merge_newSide_k7 Q e H = vwp P (.ownT 6 [(1, 1)] 5 (.seq (.draw 2 [⟨some 39, .p (.fieldA 1 1 (.t 5)), none⟩,
    ⟨some 40, .p (.load false 1 (.t 39)), none⟩,
    ⟨some 41, .s (.bstr 42 (.t 6)), none⟩,
    ⟨some 42, .s (.bslice 1 1 (.val (.string (str []))) [⟨0, .t 41⟩]), none⟩,
    ⟨some 43, .s (.app 1 16 9 (.t 40) (.t 42)), none⟩,
    ⟨some 44, .p (.fieldA 1 1 (.t 5)), none⟩,
    ⟨none, .s (.store 1 (.t 44) (.t 43)), none⟩] [4, 5])
  (.seq (.ops [⟨some 45, .p (.load true 2 (.t 5)), none⟩,
    ⟨none, .s (.store 2 (.t 4) (.t 45)), none⟩] [4])
  (.ret)))) Q e H := by_refl rfl
theorem u_merge_newSide_k8_e {P : Program} {Q : VEx → Env → List Ob → Prop} {e : Env} {H : List Ob} : vwp P c_merge_newSide_k8 Q e H = vwp P (.seq (.seq (.ops [⟨some 9, .p (.mov (.t 0)), none⟩,
    ⟨some 10, .p (.mov (.t 1)), none⟩,
    ⟨some 11, .s (.call 24 [.t 9, .t 10]), none⟩,
    ⟨some 12, .p (.lenV (.t 11)), none⟩,
    ⟨some 13, .p (.mov (.c (.int .i64 ((0 : Nat) : Int)))), none⟩] [4, 5, 6, 11, 12, 13])
  c_merge_newSide_k6)
  c_merge_newSide_k7) Q e H := by_refl rfl
theorem u_merge_newSide_k9_e {P : Program} {Q : VEx → Env → List Ob → Prop} {e : Env} {H : List Ob} : vwp P c_merge_newSide_k9 Q e H = vwp P (.seq (.ops [⟨some 6, .s (.allocT (.agg [.val (.pointer none), .val (.slice none 0 0)]) 78), none⟩] [0, 1, 4, 5, 6])
  c_merge_newSide_k8) Q e H := by_refl rfl
theorem u_merge_newSide_k10_e {P : Program} {Q : VEx → Env → List Ob → Prop} {e : Env} {H : List Ob} : vwp P c_merge_newSide_k10 Q e H = vwp P (.seq (.ops [⟨some 5, .s (.alloc (.agg [.val (.slice none 0 0), .val (.slice none 0 0)])), none⟩] [0, 1, 4, 5])
  c_merge_newSide_k9) Q e H := by_refl rfl
theorem u_merge_newSide_e {P : Program} {Q : VEx → Env → List Ob → Prop} {e : Env} {H : List Ob} : vwp P c_merge_newSide Q e H = vwp P (.seq (.ops [⟨some 4, .s (.alloc (.agg [.val (.slice none 0 0), .val (.slice none 0 0)])), none⟩] [0, 1, 4])
  c_merge_newSide_k10) Q e H := by_refl rfl
theorem u_merge_newSide_r {K : TV → Prop} {e : Env} {H : List Ob} : res r_merge_newSide e H K = res [.cell 4 true 2] e H K := by_refl rfl
def u_merge_newSide := (And.intro (And.intro (And.intro (And.intro @u_merge_newSide_k1_e @u_merge_newSide_k2_e) (And.intro @u_merge_newSide_k3_e @u_merge_newSide_k4_e)) (And.intro (And.intro @u_merge_newSide_L5_e @u_merge_newSide_k6_e) (And.intro @u_merge_newSide_k7_e @u_merge_newSide_k8_e))) (And.intro (And.intro @u_merge_newSide_k9_e @u_merge_newSide_k10_e) (And.intro @u_merge_newSide_e @u_merge_newSide_r)))
theorem go_merge_newSide {args : List TV} {H : List Ob} {R : TV → List Ob → Prop} (hn : args.length ≤ 46) (h : vwp Try.prog c_merge_newSide (atEnd r_merge_newSide R) (argsE 0 args) H) : VCalls Try.prog 38 args H R := vcalls_of Try.func38 t_merge_newSide w_merge_newSide hn h

/-! gitlike/merge.Texts -/
def c_merge_Texts_k1 : VCode := .seq (.seq (.ops [⟨some 76, .p (.fieldA 0 0 (.t 12)), none⟩,
    ⟨some 77, .p (.load false 1 (.t 76)), none⟩,
    ⟨some 78, .p (.mov (.t 18)), none⟩,
    ⟨some 79, .p (.idxA 1 (.t 77) (.t 78)), none⟩,
    ⟨some 80, .p (.load false 1 (.t 79)), none⟩] [12, 13, 14, 15, 16, 17, 18, 19, 30, 31, 32, 80])
  (.cond (.t 80)
  (.ops [⟨some 81, .p (.load false 1 (.t 16)), none⟩,
      ⟨some 82, .p (.nilc (.t 81)), none⟩,
      ⟨some 83, .p (.fieldA 1 2 (.t 82)), none⟩,
      ⟨some 84, .p (.mov (.t 19)), none⟩,
      ⟨some 85, .s (.call 41 [.t 83, .t 84]), none⟩] [12, 13, 14, 15, 16, 17, 18, 19, 30, 31, 32])
  (.skip)))
  (.seq (.ops [⟨some 86, .p (.fieldA 0 0 (.t 13)), none⟩,
    ⟨some 87, .p (.load false 1 (.t 86)), none⟩,
    ⟨some 88, .p (.mov (.t 18)), none⟩,
    ⟨some 89, .p (.idxA 1 (.t 87) (.t 88)), none⟩,
    ⟨some 90, .p (.load false 1 (.t 89)), none⟩] [12, 13, 14, 15, 16, 17, 19, 30, 31, 32, 90])
  (.cond (.t 90)
  (.ops [⟨some 91, .p (.load false 1 (.t 16)), none⟩,
      ⟨some 92, .p (.nilc (.t 91)), none⟩,
      ⟨some 93, .p (.fieldA 2 4 (.t 92)), none⟩,
      ⟨some 94, .p (.mov (.t 19)), none⟩,
      ⟨some 95, .s (.call 41 [.t 93, .t 94]), none⟩] [12, 13, 14, 15, 16, 17, 30, 31, 32])
  (.skip)))
def c_merge_Texts_k2 : VCode := .seq (.ops [⟨some 71, .p (.load false 1 (.t 16)), none⟩,
    ⟨some 72, .p (.nilc (.t 71)), none⟩,
    ⟨some 73, .p (.fieldA 0 0 (.t 72)), none⟩,
    ⟨some 74, .p (.mov (.t 19)), none⟩,
    ⟨some 75, .s (.call 41 [.t 73, .t 74]), none⟩] [12, 13, 14, 15, 16, 17, 18, 19, 30, 31, 32])
  c_merge_Texts_k1
def c_merge_Texts_k3 : VCode := .seq (.seq (.ops [⟨some 55, .p (.fieldA 0 0 (.t 12)), none⟩,
    ⟨some 56, .p (.load false 1 (.t 55)), none⟩,
    ⟨some 57, .p (.mov (.t 18)), none⟩,
    ⟨some 58, .p (.idxA 1 (.t 56) (.t 57)), none⟩,
    ⟨some 59, .p (.load false 1 (.t 58)), none⟩,
    ⟨some 60, .p (.mov (.t 59)), none⟩,
    ⟨some 61, .p (.fieldA 0 0 (.t 13)), some ⟨60, true⟩⟩,
    ⟨some 62, .p (.load false 1 (.t 61)), some ⟨60, true⟩⟩,
    ⟨some 63, .p (.mov (.t 18)), some ⟨60, true⟩⟩,
    ⟨some 64, .p (.idxA 1 (.t 62) (.t 63)), some ⟨60, true⟩⟩,
    ⟨some 65, .p (.load false 1 (.t 64)), some ⟨60, true⟩⟩,
    ⟨some 66, .p (.pick (.t 60) (.t 65) (.c (.bool false))), none⟩] [12, 13, 14, 15, 16, 17, 18, 19, 30, 31, 32, 66])
  (.cond (.t 66)
  (.seq (.ops [⟨some 67, .p (.mov (.t 17)), none⟩,
      ⟨some 68, .s (.callv (.t 67) []), none⟩] [12, 13, 14, 15, 16, 17, 19, 30, 31, 32])
    (.seq (.ops [⟨some 69, .p (.mov (.t 19)), none⟩,
      ⟨some 70, .s (.call 41 [.t 14, .t 69]), none⟩] [12, 13, 14, 15, 16, 17, 30, 31, 32])
    (.exit 1)))
  (.skip)))
  c_merge_Texts_k2
def c_merge_Texts_k4 : VCode := .seq (.draw 5 [⟨some 46, .p (.load false 1 (.t 16)), none⟩,
    ⟨some 47, .p (.nilc (.t 46)), none⟩,
    ⟨some 48, .p (.fieldA 2 4 (.t 47)), none⟩,
    ⟨some 49, .p (.fieldA 1 1 (.t 13)), none⟩,
    ⟨some 50, .p (.load false 1 (.t 49)), none⟩,
    ⟨some 51, .p (.mov (.t 18)), none⟩,
    ⟨some 52, .p (.idxA 1 (.t 50) (.t 51)), none⟩,
    ⟨some 53, .p (.load false 1 (.t 52)), none⟩,
    ⟨some 54, .s (.call 41 [.t 48, .t 53]), none⟩] [12, 13, 14, 15, 16, 17, 18, 19, 30, 31, 32])
  c_merge_Texts_k3
def c_merge_Texts_k5 : VCode := .seq (.draw 5 [⟨some 37, .p (.load false 1 (.t 16)), none⟩,
    ⟨some 38, .p (.nilc (.t 37)), none⟩,
    ⟨some 39, .p (.fieldA 1 2 (.t 38)), none⟩,
    ⟨some 40, .p (.fieldA 1 1 (.t 12)), none⟩,
    ⟨some 41, .p (.load false 1 (.t 40)), none⟩,
    ⟨some 42, .p (.mov (.t 18)), none⟩,
    ⟨some 43, .p (.idxA 1 (.t 41) (.t 42)), none⟩,
    ⟨some 44, .p (.load false 1 (.t 43)), none⟩,
    ⟨some 45, .s (.call 41 [.t 39, .t 44]), none⟩] [12, 13, 14, 15, 16, 17, 18, 19, 30, 31, 32])
  c_merge_Texts_k4
def c_merge_Texts_k6 : VCode := .seq (.block 1 (.seq (.ops [⟨some 34, .p (.mov (.t 32)), none⟩,
    ⟨some 35, .p (.idxA 1 (.t 30) (.t 32)), none⟩,
    ⟨some 36, .p (.load false 1 (.t 35)), none⟩,
    ⟨some 18, .p (.mov (.t 34)), none⟩,
    ⟨some 19, .p (.mov (.t 36)), none⟩] [12, 13, 14, 15, 16, 17, 18, 19, 30, 31, 32])
  c_merge_Texts_k5))
  (.ops [⟨some 96, .p (.bin 3 .add (.t 32) (.c (.int .i64 ((1 : Nat) : Int)))), none⟩,
    ⟨some 32, .p (.mov (.t 96)), none⟩] [12, 13, 14, 15, 16, 17, 30, 31, 32])
def c_merge_Texts_k7 : VCode := .seq (.cond (.t 33)
  (.skip)
  (.exit 0))
  c_merge_Texts_k6
def c_merge_Texts_L8 : VCode := .seq (.ops [⟨some 33, .p (.bin 3 .lss (.t 32) (.t 31)), none⟩] [12, 13, 14, 15, 16, 17, 30, 31, 32, 33])
  c_merge_Texts_k7
def c_merge_Texts_k9 : VCode := .block 0 (.loop [12, 13, 14, 15, 16, 17, 30, 31, 32] c_merge_Texts_L8)
def c_merge_Texts_k10 : VCode := .seq (.draw 5 [⟨some 108, .p (.load false 1 (.t 16)), none⟩,
    ⟨some 109, .p (.nilc (.t 108)), none⟩,
    ⟨some 110, .p (.fieldA 2 4 (.t 109)), none⟩,
    ⟨some 111, .p (.fieldA 1 1 (.t 13)), none⟩,
    ⟨some 112, .p (.load false 1 (.t 111)), none⟩,
    ⟨some 113, .p (.fieldA 0 0 (.t 13)), none⟩,
    ⟨some 114, .p (.load false 1 (.t 113)), none⟩,
    ⟨some 115, .p (.lenV (.t 114)), none⟩,
    ⟨some 116, .p (.idxA 1 (.t 112) (.t 115)), none⟩,
    ⟨some 117, .p (.load false 1 (.t 116)), none⟩,
    ⟨some 118, .s (.call 41 [.t 110, .t 117]), none⟩] [14, 15, 17])
  (.seq (.ops [⟨some 119, .p (.mov (.t 17)), none⟩,
    ⟨some 120, .s (.callv (.t 119) []), none⟩] [14, 15])
  (.seq (.draw 1 [⟨some 123, .p (.load false 1 (.t 15)), none⟩,
    ⟨some 121, .s (.bstr 42 (.t 14)), none⟩,
    ⟨some 122, .s (.s2b (.t 121)), none⟩,
    ⟨some 10, .p (.mov (.t 122)), none⟩,
    ⟨some 11, .p (.mov (.t 123)), none⟩] [10, 11])
  (.ret)))
def c_merge_Texts_k11 : VCode := .seq (.draw 5 [⟨some 97, .p (.load false 1 (.t 16)), none⟩,
    ⟨some 98, .p (.nilc (.t 97)), none⟩,
    ⟨some 99, .p (.fieldA 1 2 (.t 98)), none⟩,
    ⟨some 100, .p (.fieldA 1 1 (.t 12)), none⟩,
    ⟨some 101, .p (.load false 1 (.t 100)), none⟩,
    ⟨some 102, .p (.fieldA 0 0 (.t 12)), none⟩,
    ⟨some 103, .p (.load false 1 (.t 102)), none⟩,
    ⟨some 104, .p (.lenV (.t 103)), none⟩,
    ⟨some 105, .p (.idxA 1 (.t 101) (.t 104)), none⟩,
    ⟨some 106, .p (.load false 1 (.t 105)), none⟩,
    ⟨some 107, .s (.call 41 [.t 99, .t 106]), none⟩] [13, 14, 15, 16, 17])
  c_merge_Texts_k10
def c_merge_Texts_k12 : VCode := .seq (.seq (.ops [⟨some 29, .p (.mov (.t 0)), none⟩,
    ⟨some 30, .s (.call 23 [.t 29]), none⟩,
    ⟨some 31, .p (.lenV (.t 30)), none⟩,
    ⟨some 32, .p (.mov (.c (.int .i64 ((0 : Nat) : Int)))), none⟩] [12, 13, 14, 15, 16, 17, 30, 31, 32])
  c_merge_Texts_k9)
  c_merge_Texts_k11
def c_merge_Texts_k13 : VCode := .seq (.ops [⟨some 28, .p (.mkf (.func 39) [] [.t 16, .t 14, .t 8, .t 9, .t 15]), none⟩,
    ⟨some 17, .p (.mov (.t 28)), none⟩] [0, 12, 13, 14, 15, 16, 17])
  c_merge_Texts_k12
def c_merge_Texts_k14 : VCode := .seq (.ops [⟨some 26, .p (.build [.agg [.val (.pointer none), .val (.slice none 0 0)], .agg [.val (.pointer none), .val (.slice none 0 0)], .agg [.val (.pointer none), .val (.slice none 0 0)]] [2, 2, 2] []), none⟩,
    ⟨some 27, .s (.boxT (.t 26) 81), none⟩,
    ⟨some 16, .s (.alloc (.val (.pointer none))), none⟩,
    ⟨none, .s (.store 1 (.t 16) (.t 27)), none⟩] [0, 8, 9, 12, 13, 14, 15, 16])
  c_merge_Texts_k13
def c_merge_Texts_k15 : VCode := .seq (.ops [⟨some 15, .s (.alloc (.val (.int .i64 ((0 : Nat) : Int)))), none⟩,
    ⟨none, .s (.store 1 (.t 15) (.c (.int .i64 ((0 : Nat) : Int)))), none⟩] [0, 8, 9, 12, 13, 14, 15])
  c_merge_Texts_k14
def c_merge_Texts_k16 : VCode := .seq (.ops [⟨some 14, .s (.allocT (.agg [.val (.pointer none), .val (.slice none 0 0)]) 78), none⟩] [0, 8, 9, 12, 13, 14])
  c_merge_Texts_k15
def c_merge_Texts_k17 : VCode := .seq (.ops [⟨some 20, .p (.mov (.t 0)), none⟩,
    ⟨some 21, .p (.mov (.t 1)), none⟩,
    ⟨some 22, .s (.call 38 [.t 20, .t 21]), none⟩,
    ⟨some 23, .p (.mov (.t 0)), none⟩,
    ⟨some 24, .p (.mov (.t 2)), none⟩,
    ⟨some 25, .s (.call 38 [.t 23, .t 24]), none⟩,
    ⟨some 12, .s (.alloc (.agg [.val (.slice none 0 0), .val (.slice none 0 0)])), none⟩,
    ⟨some 13, .s (.alloc (.agg [.val (.slice none 0 0), .val (.slice none 0 0)])), none⟩,
    ⟨none, .s (.store 2 (.t 12) (.t 22)), none⟩,
    ⟨none, .s (.store 2 (.t 13) (.t 25)), none⟩] [0, 8, 9, 12, 13])
  c_merge_Texts_k16
def c_merge_Texts : VCode := .seq (.ops [⟨some 8, .s (.box (.t 3)), none⟩,
    ⟨some 9, .s (.box (.t 4)), none⟩,
    ⟨some 10, .p (.mov (.c (.slice none 0 0))), none⟩,
    ⟨some 11, .p (.mov (.c (.int .i64 ((0 : Nat) : Int)))), none⟩] [0, 1, 2, 8, 9])
  c_merge_Texts_k17
def r_merge_Texts : List VR := [.tmp 10, .tmp 11]
theorem t_merge_Texts : Try.f28.body.bind (trC Try.prog Try.f28.ntmps) = some (er c_merge_Texts) := by kernel_rfl
theorem w_merge_Texts : trR Try.prog Try.f28.results.toList = some r_merge_Texts := by kernel_rfl
theorem u_merge_Texts_k1_e {P : Program} {Q : VEx → Env → List Ob → Prop} {e : Env} {H : List Ob} : vwp P c_merge_Texts_k1 Q e H = vwp P (.seq (.seq (.ops [⟨some 76, .p (.fieldA 0 0 (.t 12)), none⟩,
    ⟨some 77, .p (.load false 1 (.t 76)), none⟩,
    ⟨some 78, .p (.mov (.t 18)), none⟩,
    ⟨some 79, .p (.idxA 1 (.t 77) (.t 78)), none⟩,
    ⟨some 80, .p (.load false 1 (.t 79)), none⟩] [12, 13, 14, 15, 16, 17, 18, 19, 30, 31, 32, 80])
  (.cond (.t 80)
  (.ops [⟨some 81, .p (.load false 1 (.t 16)), none⟩,
      ⟨some 82, .p (.nilc (.t 81)), none⟩,
      ⟨some 83, .p (.fieldA 1 2 (.t 82)), none⟩,
      ⟨some 84, .p (.mov (.t 19)), none⟩,
      ⟨some 85, .s (.call 41 [.t 83, .t 84]), none⟩] [12, 13, 14, 15, 16, 17, 18, 19, 30, 31, 32])
  (.skip)))
  (.seq (.ops [⟨some 86, .p (.fieldA 0 0 (.t 13)), none⟩,
    ⟨some 87, .p (.load false 1 (.t 86)), none⟩,
    ⟨some 88, .p (.mov (.t 18)), none⟩,
    ⟨some 89, .p (.idxA 1 (.t 87) (.t 88)), none⟩,
    ⟨some 90, .p (.load false 1 (.t 89)), none⟩] [12, 13, 14, 15, 16, 17, 19, 30, 31, 32, 90])
  (.cond (.t 90)
  (.ops [⟨some 91, .p (.load false 1 (.t 16)), none⟩,
      ⟨some 92, .p (.nilc (.t 91)), none⟩,
      ⟨some 93, .p (.fieldA 2 4 (.t 92)), none⟩,
      ⟨some 94, .p (.mov (.t 19)), none⟩,
      ⟨some 95, .s (.call 41 [.t 93, .t 94]), none⟩] [12, 13, 14, 15, 16, 17, 30, 31, 32])
  (.skip)))) Q e H := by_refl rfl
theorem u_merge_Texts_k2_e {P : Program} {Q : VEx → Env → List Ob → Prop} {e : Env} {H : List Ob} : vwp P c_merge_Texts_k2 Q e H = vwp P (.seq (.ops [⟨some 71, .p (.load false 1 (.t 16)), none⟩,
    ⟨some 72, .p (.nilc (.t 71)), none⟩,
    ⟨some 73, .p (.fieldA 0 0 (.t 72)), none⟩,
    ⟨some 74, .p (.mov (.t 19)), none⟩,
    ⟨some 75, .s (.call 41 [.t 73, .t 74]), none⟩] [12, 13, 14, 15, 16, 17, 18, 19, 30, 31, 32])
  c_merge_Texts_k1) Q e H := by_refl rfl
theorem u_merge_Texts_k3_e {P : Program} {Q : VEx → Env → List Ob → Prop} {e : Env} {H : List Ob} : vwp P c_merge_Texts_k3 Q e H = vwp P (.seq (.seq (.ops [⟨some 55, .p (.fieldA 0 0 (.t 12)), none⟩,
    ⟨some 56, .p (.load false 1 (.t 55)), none⟩,
    ⟨some 57, .p (.mov (.t 18)), none⟩,
    ⟨some 58, .p (.idxA 1 (.t 56) (.t 57)), none⟩,
    ⟨some 59, .p (.load false 1 (.t 58)), none⟩,
    ⟨some 60, .p (.mov (.t 59)), none⟩,
    ⟨some 61, .p (.fieldA 0 0 (.t 13)), some ⟨60, true⟩⟩,
    ⟨some 62, .p (.load false 1 (.t 61)), some ⟨60, true⟩⟩,
    ⟨some 63, .p (.mov (.t 18)), some ⟨60, true⟩⟩,
    ⟨some 64, .p (.idxA 1 (.t 62) (.t 63)), some ⟨60, true⟩⟩,
    ⟨some 65, .p (.load false 1 (.t 64)), some ⟨60, true⟩⟩,
    ⟨some 66, .p (.pick (.t 60) (.t 65) (.c (.bool false))), none⟩] [12, 13, 14, 15, 16, 17, 18, 19, 30, 31, 32, 66])
  (.cond (.t 66)
  (.seq (.ops [⟨some 67, .p (.mov (.t 17)), none⟩,
      ⟨some 68, .s (.callv (.t 67) []), none⟩] [12, 13, 14, 15, 16, 17, 19, 30, 31, 32])
    (.seq (.ops [⟨some 69, .p (.mov (.t 19)), none⟩,
      ⟨some 70, .s (.call 41 [.t 14, .t 69]), none⟩] [12, 13, 14, 15, 16, 17, 30, 31, 32])
    (.exit 1)))
  (.skip)))
  c_merge_Texts_k2) Q e H := by_refl rfl
theorem u_merge_Texts_k4_e {P : Program} {Q : VEx → Env → List Ob → Prop} {e : Env} {H : List Ob} : vwp P c_merge_Texts_k4 Q e H = vwp P (.seq (.draw 5 [⟨some 46, .p (.load false 1 (.t 16)), none⟩,
    ⟨some 47, .p (.nilc (.t 46)), none⟩,
    ⟨some 48, .p (.fieldA 2 4 (.t 47)), none⟩,
    ⟨some 49, .p (.fieldA 1 1 (.t 13)), none⟩,
    ⟨some 50, .p (.load false 1 (.t 49)), none⟩,
    ⟨some 51, .p (.mov (.t 18)), none⟩,
    ⟨some 52, .p (.idxA 1 (.t 50) (.t 51)), none⟩,
    ⟨some 53, .p (.load false 1 (.t 52)), none⟩,
    ⟨some 54, .s (.call 41 [.t 48, .t 53]), none⟩] [12, 13, 14, 15, 16, 17, 18, 19, 30, 31, 32])
  c_merge_Texts_k3) Q e H := by_refl rfl
theorem u_merge_Texts_k5_e {P : Program} {Q : VEx → Env → List Ob → Prop} {e : Env} {H : List Ob} : vwp P c_merge_Texts_k5 Q e H = vwp P (.seq (.draw 5 [⟨some 37, .p (.load false 1 (.t 16)), none⟩,
    ⟨some 38, .p (.nilc (.t 37)), none⟩,
    ⟨some 39, .p (.fieldA 1 2 (.t 38)), none⟩,
    ⟨some 40, .p (.fieldA 1 1 (.t 12)), none⟩,
    ⟨some 41, .p (.load false 1 (.t 40)), none⟩,
    ⟨some 42, .p (.mov (.t 18)), none⟩,
    ⟨some 43, .p (.idxA 1 (.t 41) (.t 42)), none⟩,
    ⟨some 44, .p (.load false 1 (.t 43)), none⟩,
    ⟨some 45, .s (.call 41 [.t 39, .t 44]), none⟩] [12, 13, 14, 15, 16, 17, 18, 19, 30, 31, 32])
  c_merge_Texts_k4) Q e H := by_refl rfl
theorem u_merge_Texts_k6_e {P : Program} {Q : VEx → Env → List Ob → Prop} {e : Env} {H : List Ob} : vwp P c_merge_Texts_k6 Q e H = vwp P (.seq (.block 1 (.seq (.ops [⟨some 34, .p (.mov (.t 32)), none⟩,
    ⟨some 35, .p (.idxA 1 (.t 30) (.t 32)), none⟩,
    ⟨some 36, .p (.load false 1 (.t 35)), none⟩,
    ⟨some 18, .p (.mov (.t 34)), none⟩,
    ⟨some 19, .p (.mov (.t 36)), none⟩] [12, 13, 14, 15, 16, 17, 18, 19, 30, 31, 32])
  c_merge_Texts_k5))
  (.ops [⟨some 96, .p (.bin 3 .add (.t 32) (.c (.int .i64 ((1 : Nat) : Int)))), none⟩,
    ⟨some 32, .p (.mov (.t 96)), none⟩] [12, 13, 14, 15, 16, 17, 30, 31, 32])) Q e H := by_refl rfl
theorem u_merge_Texts_k7_e {P : Program} {Q : VEx → Env → List Ob → Prop} {e : Env} {H : List Ob} : vwp P c_merge_Texts_k7 Q e H = vwp P (.seq (.cond (.t 33)
  (.skip)
  (.exit 0))
  c_merge_Texts_k6) Q e H := by_refl rfl
theorem u_merge_Texts_L8_e {P : Program} {Q : VEx → Env → List Ob → Prop} {e : Env} {H : List Ob} : vwp P c_merge_Texts_L8 Q e H = vwp P (.seq (.ops [⟨some 33, .p (.bin 3 .lss (.t 32) (.t 31)), none⟩] [12, 13, 14, 15, 16, 17, 30, 31, 32, 33])
  c_merge_Texts_k7) Q e H := by_refl rfl
theorem u_merge_Texts_k9_e {P : Program} {Q : VEx → Env → List Ob → Prop} {e : Env} {H : List Ob} : vwp P c_merge_Texts_k9 Q e H = vwp P (.block 0 (.loop [12, 13, 14, 15, 16, 17, 30, 31, 32] c_merge_Texts_L8)) Q e H := by_refl rfl
theorem u_merge_Texts_k10_e {P : Program} {Q : VEx → Env → List Ob → Prop} {e : Env} {H : List Ob} : vwp P c_merge_Texts_k10 Q e H = vwp P (.seq (.draw 5 [⟨some 108, .p (.load false 1 (.t 16)), none⟩,
    ⟨some 109, .p (.nilc (.t 108)), none⟩,
    ⟨some 110, .p (.fieldA 2 4 (.t 109)), none⟩,
    ⟨some 111, .p (.fieldA 1 1 (.t 13)), none⟩,
    ⟨some 112, .p (.load false 1 (.t 111)), none⟩,
    ⟨some 113, .p (.fieldA 0 0 (.t 13)), none⟩,
    ⟨some 114, .p (.load false 1 (.t 113)), none⟩,
    ⟨some 115, .p (.lenV (.t 114)), none⟩,
    ⟨some 116, .p (.idxA 1 (.t 112) (.t 115)), none⟩,
    ⟨some 117, .p (.load false 1 (.t 116)), none⟩,
    ⟨some 118, .s (.call 41 [.t 110, .t 117]), none⟩] [14, 15, 17])
  (.seq (.ops [⟨some 119, .p (.mov (.t 17)), none⟩,
    ⟨some 120, .s (.callv (.t 119) []), none⟩] [14, 15])
  (.seq (.draw 1 [⟨some 123, .p (.load false 1 (.t 15)), none⟩,
    ⟨some 121, .s (.bstr 42 (.t 14)), none⟩,
    ⟨some 122, .s (.s2b (.t 121)), none⟩,
    ⟨some 10, .p (.mov (.t 122)), none⟩,
    ⟨some 11, .p (.mov (.t 123)), none⟩] [10, 11])
  (.ret)))) Q e H := by_refl rfl
theorem u_merge_Texts_k11_e {P : Program} {Q : VEx → Env → List Ob → Prop} {e : Env} {H : List Ob} : vwp P c_merge_Texts_k11 Q e H = vwp P (.seq (.draw 5 [⟨some 97, .p (.load false 1 (.t 16)), none⟩,
    ⟨some 98, .p (.nilc (.t 97)), none⟩,
    ⟨some 99, .p (.fieldA 1 2 (.t 98)), none⟩,
    ⟨some 100, .p (.fieldA 1 1 (.t 12)), none⟩,
    ⟨some 101, .p (.load false 1 (.t 100)), none⟩,
    ⟨some 102, .p (.fieldA 0 0 (.t 12)), none⟩,
    ⟨some 103, .p (.load false 1 (.t 102)), none⟩,
    ⟨some 104, .p (.lenV (.t 103)), none⟩,
    ⟨some 105, .p (.idxA 1 (.t 101) (.t 104)), none⟩,
    ⟨some 106, .p (.load false 1 (.t 105)), none⟩,
    ⟨some 107, .s (.call 41 [.t 99, .t 106]), none⟩] [13, 14, 15, 16, 17])
  c_merge_Texts_k10) Q e H := by_refl rfl
theorem u_merge_Texts_k12_e {P : Program} {Q : VEx → Env → List Ob → Prop} {e : Env} {H : List Ob} : vwp P c_merge_Texts_k12 Q e H = vwp P (.seq (.seq (.ops [⟨some 29, .p (.mov (.t 0)), none⟩,
    ⟨some 30, .s (.call 23 [.t 29]), none⟩,
    ⟨some 31, .p (.lenV (.t 30)), none⟩,
    ⟨some 32, .p (.mov (.c (.int .i64 ((0 : Nat) : Int)))), none⟩] [12, 13, 14, 15, 16, 17, 30, 31, 32])
  c_merge_Texts_k9)
  c_merge_Texts_k11) Q e H := by_refl rfl
theorem u_merge_Texts_k13_e {P : Program} {Q : VEx → Env → List Ob → Prop} {e : Env} {H : List Ob} : vwp P c_merge_Texts_k13 Q e H = vwp P (.seq (.ops [⟨some 28, .p (.mkf (.func 39) [] [.t 16, .t 14, .t 8, .t 9, .t 15]), none⟩,
    ⟨some 17, .p (.mov (.t 28)), none⟩] [0, 12, 13, 14, 15, 16, 17])
  c_merge_Texts_k12) Q e H := by_refl rfl
theorem u_merge_Texts_k14_e {P : Program} {Q : VEx → Env → List Ob → Prop} {e : Env} {H : List Ob} : vwp P c_merge_Texts_k14 Q e H = vwp P (.seq (.ops [⟨some 26, .p (.build [.agg [.val (.pointer none), .val (.slice none 0 0)], .agg [.val (.pointer none), .val (.slice none 0 0)], .agg [.val (.pointer none), .val (.slice none 0 0)]] [2, 2, 2] []), none⟩,
    ⟨some 27, .s (.boxT (.t 26) 81), none⟩,
    ⟨some 16, .s (.alloc (.val (.pointer none))), none⟩,
    ⟨none, .s (.store 1 (.t 16) (.t 27)), none⟩] [0, 8, 9, 12, 13, 14, 15, 16])
  c_merge_Texts_k13) Q e H := by_refl rfl
theorem u_merge_Texts_k15_e {P : Program} {Q : VEx → Env → List Ob → Prop} {e : Env} {H : List Ob} : vwp P c_merge_Texts_k15 Q e H = vwp P (.seq (.ops [⟨some 15, .s (.alloc (.val (.int .i64 ((0 : Nat) : Int)))), none⟩,
    ⟨none, .s (.store 1 (.t 15) (.c (.int .i64 ((0 : Nat) : Int)))), none⟩] [0, 8, 9, 12, 13, 14, 15])
  c_merge_Texts_k14) Q e H := by_refl rfl
theorem u_merge_Texts_k16_e {P : Program} {Q : VEx → Env → List Ob → Prop} {e : Env} {H : List Ob} : vwp P c_merge_Texts_k16 Q e H = vwp P (.seq (.ops [⟨some 14, .s (.allocT (.agg [.val (.pointer none), .val (.slice none 0 0)]) 78), none⟩] [0, 8, 9, 12, 13, 14])
  c_merge_Texts_k15) Q e H := by_refl rfl
theorem u_merge_Texts_k17_e {P : Program} {Q : VEx → Env → List Ob → Prop} {e : Env} {H : List Ob} : vwp P c_merge_Texts_k17 Q e H = vwp P (.seq (.ops [⟨some 20, .p (.mov (.t 0)), none⟩,
    ⟨some 21, .p (.mov (.t 1)), none⟩,
    ⟨some 22, .s (.call 38 [.t 20, .t 21]), none⟩,
    ⟨some 23, .p (.mov (.t 0)), none⟩,
    ⟨some 24, .p (.mov (.t 2)), none⟩,
    ⟨some 25, .s (.call 38 [.t 23, .t 24]), none⟩,
    ⟨some 12, .s (.alloc (.agg [.val (.slice none 0 0), .val (.slice none 0 0)])), none⟩,
    ⟨some 13, .s (.alloc (.agg [.val (.slice none 0 0), .val (.slice none 0 0)])), none⟩,
    ⟨none, .s (.store 2 (.t 12) (.t 22)), none⟩,
    ⟨none, .s (.store 2 (.t 13) (.t 25)), none⟩] [0, 8, 9, 12, 13])
  c_merge_Texts_k16) Q e H := by_refl rfl
theorem u_merge_Texts_e {P : Program} {Q : VEx → Env → List Ob → Prop} {e : Env} {H : List Ob} : vwp P c_merge_Texts Q e H = vwp P (.seq (.ops [⟨some 8, .s (.box (.t 3)), none⟩,
    ⟨some 9, .s (.box (.t 4)), none⟩,
    ⟨some 10, .p (.mov (.c (.slice none 0 0))), none⟩,
    ⟨some 11, .p (.mov (.c (.int .i64 ((0 : Nat) : Int)))), none⟩] [0, 1, 2, 8, 9])
  c_merge_Texts_k17) Q e H := by_refl rfl
theorem u_merge_Texts_r {K : TV → Prop} {e : Env} {H : List Ob} : res r_merge_Texts e H K = res [.tmp 10, .tmp 11] e H K := by_refl rfl
def u_merge_Texts := (And.intro (And.intro (And.intro (And.intro (And.intro @u_merge_Texts_k1_e @u_merge_Texts_k2_e) (And.intro @u_merge_Texts_k3_e @u_merge_Texts_k4_e)) (And.intro (And.intro @u_merge_Texts_k5_e @u_merge_Texts_k6_e) (And.intro @u_merge_Texts_k7_e @u_merge_Texts_L8_e))) (And.intro (And.intro (And.intro @u_merge_Texts_k9_e @u_merge_Texts_k10_e) (And.intro @u_merge_Texts_k11_e @u_merge_Texts_k12_e)) (And.intro (And.intro @u_merge_Texts_k13_e @u_merge_Texts_k14_e) (And.intro @u_merge_Texts_k15_e @u_merge_Texts_k16_e)))) (And.intro (And.intro @u_merge_Texts_k17_e @u_merge_Texts_e) @u_merge_Texts_r))
theorem go_merge_Texts {args : List TV} {H : List Ob} {R : TV → List Ob → Prop} (hn : args.length ≤ 124) (h : vwp Try.prog c_merge_Texts (atEnd r_merge_Texts R) (argsE 0 args) H) : VCalls Try.prog 28 args H R := vcalls_of Try.func28 t_merge_Texts w_merge_Texts hn h

/-! gitlike/merge.Texts$1 -/
def c_merge_Texts_1 : VCode := .seq (.seq (.ops [⟨some 5, .p (.load false 1 (.t 0)), none⟩,
    ⟨some 6, .p (.load false 1 (.t 2)), none⟩,
    ⟨some 7, .p (.load false 1 (.t 3)), none⟩,
    ⟨some 8, .s (.call 40 [.t 5, .t 1, .t 6, .t 7]), none⟩] [0, 4, 8])
  (.cond (.t 8)
  (.ops [⟨some 9, .p (.load false 1 (.t 4)), none⟩,
      ⟨some 10, .p (.bin 3 .add (.t 9) (.c (.int .i64 ((1 : Nat) : Int)))), none⟩,
      ⟨none, .s (.store 1 (.t 4) (.t 10)), none⟩] [0])
  (.skip)))
  (.ops [⟨some 11, .p (.build [.agg [.val (.pointer none), .val (.slice none 0 0)], .agg [.val (.pointer none), .val (.slice none 0 0)], .agg [.val (.pointer none), .val (.slice none 0 0)]] [2, 2, 2] []), none⟩,
    ⟨some 12, .s (.boxT (.t 11) 81), none⟩,
    ⟨none, .s (.store 1 (.t 0) (.t 12)), none⟩] [])
def r_merge_Texts_1 : List VR := []
theorem t_merge_Texts_1 : Try.f39.body.bind (trC Try.prog Try.f39.ntmps) = some (er c_merge_Texts_1) := by kernel_rfl
theorem w_merge_Texts_1 : trR Try.prog Try.f39.results.toList = some r_merge_Texts_1 := by kernel_rfl
theorem u_merge_Texts_1_e {P : Program} {Q : VEx → Env → List Ob → Prop} {e : Env} {H : List Ob} : vwp P c_merge_Texts_1 Q e H = vwp P (.seq (.seq (.ops [⟨some 5, .p (.load false 1 (.t 0)), none⟩,
    ⟨some 6, .p (.load false 1 (.t 2)), none⟩,
    ⟨some 7, .p (.load false 1 (.t 3)), none⟩,
    ⟨some 8, .s (.call 40 [.t 5, .t 1, .t 6, .t 7]), none⟩] [0, 4, 8])
  (.cond (.t 8)
  (.ops [⟨some 9, .p (.load false 1 (.t 4)), none⟩,
      ⟨some 10, .p (.bin 3 .add (.t 9) (.c (.int .i64 ((1 : Nat) : Int)))), none⟩,
      ⟨none, .s (.store 1 (.t 4) (.t 10)), none⟩] [0])
  (.skip)))
  (.ops [⟨some 11, .p (.build [.agg [.val (.pointer none), .val (.slice none 0 0)], .agg [.val (.pointer none), .val (.slice none 0 0)], .agg [.val (.pointer none), .val (.slice none 0 0)]] [2, 2, 2] []), none⟩,
    ⟨some 12, .s (.boxT (.t 11) 81), none⟩,
    ⟨none, .s (.store 1 (.t 0) (.t 12)), none⟩] [])) Q e H := by_refl rfl
theorem u_merge_Texts_1_r {K : TV → Prop} {e : Env} {H : List Ob} : res r_merge_Texts_1 e H K = res [] e H K := by_refl rfl
def u_merge_Texts_1 := (And.intro @u_merge_Texts_1_e @u_merge_Texts_1_r)
theorem go_merge_Texts_1 {args : List TV} {H : List Ob} {R : TV → List Ob → Prop} (hn : args.length ≤ 13) (h : vwp Try.prog c_merge_Texts_1 (atEnd r_merge_Texts_1 R) (argsE 0 args) H) : VCalls Try.prog 39 args H R := vcalls_of Try.func39 t_merge_Texts_1 w_merge_Texts_1 hn h

/-! (*gitlike/merge.piece).settle -/
def c_merge_piece_settle_b1 : VCode := .seq (.ops [⟨some 34, .p (.mov (.t 1)), none⟩,
    ⟨some 35, .p (.mov (.t 2)), none⟩,
    ⟨some 36, .p (.bin 9 .add (.c (.string (str [60, 60, 60, 60, 60, 60, 60, 32]))) (.t 35)), none⟩,
    ⟨some 37, .p (.bin 9 .add (.t 36) (.c (.string (str [10])))), none⟩,
    ⟨some 38, .p (.mov (.t 10)), none⟩,
    ⟨some 39, .s (.call 52 [.t 38]), none⟩,
    ⟨some 40, .p (.bin 9 .add (.t 37) (.t 39)), none⟩,
    ⟨some 41, .p (.bin 9 .add (.t 40) (.c (.string (str [61, 61, 61, 61, 61, 61, 61, 10])))), none⟩,
    ⟨some 42, .p (.mov (.t 11)), none⟩,
    ⟨some 43, .s (.call 52 [.t 42]), none⟩,
    ⟨some 44, .p (.bin 9 .add (.t 41) (.t 43)), none⟩,
    ⟨some 45, .p (.bin 9 .add (.t 44) (.c (.string (str [62, 62, 62, 62, 62, 62, 62, 32])))), none⟩,
    ⟨some 46, .p (.mov (.t 3)), none⟩,
    ⟨some 47, .p (.bin 9 .add (.t 45) (.t 46)), none⟩,
    ⟨some 48, .p (.bin 9 .add (.t 47) (.c (.string (str [10])))), none⟩,
    ⟨some 49, .s (.call 41 [.t 34, .t 48]), none⟩] [])
  (.seq (.ops [⟨some 8, .p (.mov (.c (.bool true))), none⟩] [8])
  (.ret))
def c_merge_piece_settle_k2 : VCode := .cond (.t 33)
  c_merge_piece_settle_b1
  (.skip)
def c_merge_piece_settle_k3 : VCode := .seq (.ops [⟨some 31, .p (.mov (.t 10)), none⟩,
    ⟨some 32, .p (.mov (.t 11)), none⟩,
    ⟨some 33, .p (.bin 9 .neq (.t 31) (.t 32)), none⟩] [1, 2, 3, 10, 11, 33])
  c_merge_piece_settle_k2
def c_merge_piece_settle_k4 : VCode := .block 0 (.seq (.block 3 (.seq (.block 2 (.seq (.block 1 (.seq (.seq (.seq (.ops [⟨some 26, .p (.mov (.t 11)), none⟩,
    ⟨some 27, .p (.bin 9 .eql (.t 24) (.t 26)), none⟩,
    ⟨some 25, .p (.mov (.t 27)), none⟩] [1, 2, 3, 10, 11, 24, 25])
  (.cond (.t 25)
  (.exit 2)
  (.skip)))
  (.seq (.ops [⟨some 29, .p (.mov (.t 10)), none⟩,
    ⟨some 30, .p (.bin 9 .eql (.t 24) (.t 29)), none⟩,
    ⟨some 28, .p (.mov (.t 30)), none⟩] [1, 2, 3, 10, 11, 28])
  (.cond (.t 28)
  (.exit 3)
  (.skip))))
  (.exit 1)))
  c_merge_piece_settle_k3))
  (.seq (.ops [⟨some 50, .p (.mov (.t 1)), none⟩,
    ⟨some 51, .p (.mov (.t 10)), none⟩,
    ⟨some 52, .s (.call 41 [.t 50, .t 51]), none⟩] [])
  (.exit 0))))
  (.seq (.ops [⟨some 53, .p (.mov (.t 1)), none⟩,
    ⟨some 54, .p (.mov (.t 11)), none⟩,
    ⟨some 55, .s (.call 41 [.t 53, .t 54]), none⟩] [])
  (.exit 0)))
def c_merge_piece_settle_k5 : VCode := .seq (.seq (.ops [⟨some 24, .p (.mov (.t 9)), none⟩] [1, 2, 3, 10, 11, 24])
  c_merge_piece_settle_k4)
  (.seq (.ops [⟨some 8, .p (.mov (.c (.bool false))), none⟩] [8])
  (.ret))
def c_merge_piece_settle_k6 : VCode := .seq (.draw 9 [⟨some 12, .p (.mov (.t 0)), none⟩,
    ⟨some 13, .p (.nilc (.t 12)), none⟩,
    ⟨some 14, .p (.fieldA 0 0 (.t 13)), none⟩,
    ⟨some 16, .p (.mov (.t 0)), none⟩,
    ⟨some 17, .p (.nilc (.t 16)), none⟩,
    ⟨some 18, .p (.fieldA 1 2 (.t 17)), none⟩,
    ⟨some 20, .p (.mov (.t 0)), none⟩,
    ⟨some 21, .p (.nilc (.t 20)), none⟩,
    ⟨some 22, .p (.fieldA 2 4 (.t 21)), none⟩,
    ⟨some 15, .s (.bstr 42 (.t 14)), none⟩,
    ⟨some 19, .s (.bstr 42 (.t 18)), none⟩,
    ⟨some 23, .s (.bstr 42 (.t 22)), none⟩,
    ⟨some 9, .p (.mov (.t 15)), none⟩,
    ⟨some 10, .p (.mov (.t 19)), none⟩,
    ⟨some 11, .p (.mov (.t 23)), none⟩] [1, 2, 3, 9, 10, 11])
  c_merge_piece_settle_k5
def c_merge_piece_settle : VCode := .ownT 0 [(0, 0), (1, 1)] 5 (.ownT 0 [(1, 2), (1, 1)] 5 (.ownT 0 [(2, 4), (1, 1)] 5 (.seq (.ops [⟨some 8, .p (.mov (.c (.bool false))), none⟩] [0, 1, 2, 3])
  c_merge_piece_settle_k6)))
def r_merge_piece_settle : List VR := [.tmp 8]
theorem t_merge_piece_settle : Try.f40.body.bind (trC Try.prog Try.f40.ntmps) = some (er c_merge_piece_settle) := by kernel_rfl
theorem w_merge_piece_settle : trR Try.prog Try.f40.results.toList = some r_merge_piece_settle := by kernel_rfl
theorem u_merge_piece_settle_b1_e {P : Program} {Q : VEx → Env → List Ob → Prop} {e : Env} {H : List Ob} : vwp P c_merge_piece_settle_b1 Q e H = vwp P (.seq (.ops [⟨some 34, .p (.mov (.t 1)), none⟩,
    ⟨some 35, .p (.mov (.t 2)), none⟩,
    ⟨some 36, .p (.bin 9 .add (.c (.string (str [60, 60, 60, 60, 60, 60, 60, 32]))) (.t 35)), none⟩,
    ⟨some 37, .p (.bin 9 .add (.t 36) (.c (.string (str [10])))), none⟩,
    ⟨some 38, .p (.mov (.t 10)), none⟩,
    ⟨some 39, .s (.call 52 [.t 38]), none⟩,
    ⟨some 40, .p (.bin 9 .add (.t 37) (.t 39)), none⟩,
    ⟨some 41, .p (.bin 9 .add (.t 40) (.c (.string (str [61, 61, 61, 61, 61, 61, 61, 10])))), none⟩,
    ⟨some 42, .p (.mov (.t 11)), none⟩,
    ⟨some 43, .s (.call 52 [.t 42]), none⟩,
    ⟨some 44, .p (.bin 9 .add (.t 41) (.t 43)), none⟩,
    ⟨some 45, .p (.bin 9 .add (.t 44) (.c (.string (str [62, 62, 62, 62, 62, 62, 62, 32])))), none⟩,
    ⟨some 46, .p (.mov (.t 3)), none⟩,
    ⟨some 47, .p (.bin 9 .add (.t 45) (.t 46)), none⟩,
    ⟨some 48, .p (.bin 9 .add (.t 47) (.c (.string (str [10])))), none⟩,
    ⟨some 49, .s (.call 41 [.t 34, .t 48]), none⟩] [])
  (.seq (.ops [⟨some 8, .p (.mov (.c (.bool true))), none⟩] [8])
  (.ret))) Q e H := by_refl rfl
theorem u_merge_piece_settle_k2_e {P : Program} {Q : VEx → Env → List Ob → Prop} {e : Env} {H : List Ob} : vwp P c_merge_piece_settle_k2 Q e H = vwp P (.cond (.t 33)
  c_merge_piece_settle_b1
  (.skip)) Q e H := by_refl rfl
theorem u_merge_piece_settle_k3_e {P : Program} {Q : VEx → Env → List Ob → Prop} {e : Env} {H : List Ob} : vwp P c_merge_piece_settle_k3 Q e H = vwp P (.seq (.ops [⟨some 31, .p (.mov (.t 10)), none⟩,
    ⟨some 32, .p (.mov (.t 11)), none⟩,
    ⟨some 33, .p (.bin 9 .neq (.t 31) (.t 32)), none⟩] [1, 2, 3, 10, 11, 33])
  c_merge_piece_settle_k2) Q e H := by_refl rfl
theorem u_merge_piece_settle_k4_e {P : Program} {Q : VEx → Env → List Ob → Prop} {e : Env} {H : List Ob} : vwp P c_merge_piece_settle_k4 Q e H = vwp P (.block 0 (.seq (.block 3 (.seq (.block 2 (.seq (.block 1 (.seq (.seq (.seq (.ops [⟨some 26, .p (.mov (.t 11)), none⟩,
    ⟨some 27, .p (.bin 9 .eql (.t 24) (.t 26)), none⟩,
    ⟨some 25, .p (.mov (.t 27)), none⟩] [1, 2, 3, 10, 11, 24, 25])
  (.cond (.t 25)
  (.exit 2)
  (.skip)))
  (.seq (.ops [⟨some 29, .p (.mov (.t 10)), none⟩,
    ⟨some 30, .p (.bin 9 .eql (.t 24) (.t 29)), none⟩,
    ⟨some 28, .p (.mov (.t 30)), none⟩] [1, 2, 3, 10, 11, 28])
  (.cond (.t 28)
  (.exit 3)
  (.skip))))
  (.exit 1)))
  c_merge_piece_settle_k3))
  (.seq (.ops [⟨some 50, .p (.mov (.t 1)), none⟩,
    ⟨some 51, .p (.mov (.t 10)), none⟩,
    ⟨some 52, .s (.call 41 [.t 50, .t 51]), none⟩] [])
  (.exit 0))))
  (.seq (.ops [⟨some 53, .p (.mov (.t 1)), none⟩,
    ⟨some 54, .p (.mov (.t 11)), none⟩,
    ⟨some 55, .s (.call 41 [.t 53, .t 54]), none⟩] [])
  (.exit 0)))) Q e H := by_refl rfl
theorem u_merge_piece_settle_k5_e {P : Program} {Q : VEx → Env → List Ob → Prop} {e : Env} {H : List Ob} : vwp P c_merge_piece_settle_k5 Q e H = vwp P (.seq (.seq (.ops [⟨some 24, .p (.mov (.t 9)), none⟩] [1, 2, 3, 10, 11, 24])
  c_merge_piece_settle_k4)
  (.seq (.ops [⟨some 8, .p (.mov (.c (.bool false))), none⟩] [8])
  (.ret))) Q e H := by_refl rfl
theorem u_merge_piece_settle_k6_e {P : Program} {Q : VEx → Env → List Ob → Prop} {e : Env} {H : List Ob} : vwp P c_merge_piece_settle_k6 Q e H = vwp P (.seq (.draw 9 [⟨some 12, .p (.mov (.t 0)), none⟩,
    ⟨some 13, .p (.nilc (.t 12)), none⟩,
    ⟨some 14, .p (.fieldA 0 0 (.t 13)), none⟩,
    ⟨some 16, .p (.mov (.t 0)), none⟩,
    ⟨some 17, .p (.nilc (.t 16)), none⟩,
    ⟨some 18, .p (.fieldA 1 2 (.t 17)), none⟩,
    ⟨some 20, .p (.mov (.t 0)), none⟩,
    ⟨some 21, .p (.nilc (.t 20)), none⟩,
    ⟨some 22, .p (.fieldA 2 4 (.t 21)), none⟩,
    ⟨some 15, .s (.bstr 42 (.t 14)), none⟩,
    ⟨some 19, .s (.bstr 42 (.t 18)), none⟩,
    ⟨some 23, .s (.bstr 42 (.t 22)), none⟩,
    ⟨some 9, .p (.mov (.t 15)), none⟩,
    ⟨some 10, .p (.mov (.t 19)), none⟩,
    ⟨some 11, .p (.mov (.t 23)), none⟩] [1, 2, 3, 9, 10, 11])
  c_merge_piece_settle_k5) Q e H := by_refl rfl
theorem u_merge_piece_settle_e {P : Program} {Q : VEx → Env → List Ob → Prop} {e : Env} {H : List Ob} : vwp P c_merge_piece_settle Q e H = vwp P (.ownT 0 [(0, 0), (1, 1)] 5 (.ownT 0 [(1, 2), (1, 1)] 5 (.ownT 0 [(2, 4), (1, 1)] 5 (.seq (.ops [⟨some 8, .p (.mov (.c (.bool false))), none⟩] [0, 1, 2, 3])
  c_merge_piece_settle_k6)))) Q e H := by_refl rfl
theorem u_merge_piece_settle_r {K : TV → Prop} {e : Env} {H : List Ob} : res r_merge_piece_settle e H K = res [.tmp 8] e H K := by_refl rfl
def u_merge_piece_settle := (And.intro (And.intro (And.intro @u_merge_piece_settle_b1_e @u_merge_piece_settle_k2_e) (And.intro @u_merge_piece_settle_k3_e @u_merge_piece_settle_k4_e)) (And.intro (And.intro @u_merge_piece_settle_k5_e @u_merge_piece_settle_k6_e) (And.intro @u_merge_piece_settle_e @u_merge_piece_settle_r)))
theorem go_merge_piece_settle {args : List TV} {H : List Ob} {R : TV → List Ob → Prop} (hn : args.length ≤ 56) (h : vwp Try.prog c_merge_piece_settle (atEnd r_merge_piece_settle R) (argsE 0 args) H) : VCalls Try.prog 40 args H R := vcalls_of Try.func40 t_merge_piece_settle w_merge_piece_settle hn h

/-! gitlike/merge.ended -/
def c_merge_ended : VCode := .seq (.ops [⟨some 2, .p (.mov (.c (.string (str [])))), none⟩] [0])
  (.seq (.seq (.ops [⟨some 3, .p (.mov (.t 0)), none⟩,
    ⟨some 4, .p (.bin 9 .eql (.t 3) (.c (.string (str [])))), none⟩,
    ⟨some 5, .p (.mov (.t 4)), none⟩,
    ⟨some 6, .p (.mov (.t 0)), some ⟨5, false⟩⟩,
    ⟨some 7, .s (.call 60 [.t 6, .c (.string (str [10]))]), some ⟨5, false⟩⟩,
    ⟨some 8, .p (.pick (.t 5) (.c (.bool true)) (.t 7)), none⟩] [0, 8])
  (.cond (.t 8)
  (.seq (.ops [⟨some 9, .p (.mov (.t 0)), none⟩,
      ⟨some 2, .p (.mov (.t 9)), none⟩] [2])
    (.ret))
  (.skip)))
  (.seq (.ops [⟨some 10, .p (.mov (.t 0)), none⟩,
    ⟨some 11, .p (.bin 9 .add (.t 10) (.c (.string (str [10])))), none⟩,
    ⟨some 2, .p (.mov (.t 11)), none⟩] [2])
  (.ret)))
def r_merge_ended : List VR := [.tmp 2]
theorem t_merge_ended : Try.f52.body.bind (trC Try.prog Try.f52.ntmps) = some (er c_merge_ended) := by kernel_rfl
theorem w_merge_ended : trR Try.prog Try.f52.results.toList = some r_merge_ended := by kernel_rfl
theorem u_merge_ended_e {P : Program} {Q : VEx → Env → List Ob → Prop} {e : Env} {H : List Ob} : vwp P c_merge_ended Q e H = vwp P (.seq (.ops [⟨some 2, .p (.mov (.c (.string (str [])))), none⟩] [0])
  (.seq (.seq (.ops [⟨some 3, .p (.mov (.t 0)), none⟩,
    ⟨some 4, .p (.bin 9 .eql (.t 3) (.c (.string (str [])))), none⟩,
    ⟨some 5, .p (.mov (.t 4)), none⟩,
    ⟨some 6, .p (.mov (.t 0)), some ⟨5, false⟩⟩,
    ⟨some 7, .s (.call 60 [.t 6, .c (.string (str [10]))]), some ⟨5, false⟩⟩,
    ⟨some 8, .p (.pick (.t 5) (.c (.bool true)) (.t 7)), none⟩] [0, 8])
  (.cond (.t 8)
  (.seq (.ops [⟨some 9, .p (.mov (.t 0)), none⟩,
      ⟨some 2, .p (.mov (.t 9)), none⟩] [2])
    (.ret))
  (.skip)))
  (.seq (.ops [⟨some 10, .p (.mov (.t 0)), none⟩,
    ⟨some 11, .p (.bin 9 .add (.t 10) (.c (.string (str [10])))), none⟩,
    ⟨some 2, .p (.mov (.t 11)), none⟩] [2])
  (.ret)))) Q e H := by_refl rfl
theorem u_merge_ended_r {K : TV → Prop} {e : Env} {H : List Ob} : res r_merge_ended e H K = res [.tmp 2] e H K := by_refl rfl
def u_merge_ended := (And.intro @u_merge_ended_e @u_merge_ended_r)
theorem go_merge_ended {args : List TV} {H : List Ob} {R : TV → List Ob → Prop} (hn : args.length ≤ 12) (h : vwp Try.prog c_merge_ended (atEnd r_merge_ended R) (argsE 0 args) H) : VCalls Try.prog 52 args H R := vcalls_of Try.func52 t_merge_ended w_merge_ended hn h

/-! gitlike/gitlikeref11.side -/
def c_ref11_side_b1 : VCode := .seq (.ops [⟨some 49, .p (.mov (.t 8)), none⟩,
    ⟨some 50, .p (.mov (.t 10)), none⟩,
    ⟨some 51, .p (.idxA 1 (.t 49) (.t 50)), none⟩,
    ⟨none, .s (.store 1 (.t 51) (.c (.bool true))), none⟩] [6, 8, 9, 10, 11])
  (.ops [⟨some 52, .p (.mov (.t 10)), none⟩,
    ⟨some 53, .p (.bin 3 .add (.t 52) (.c (.int .i64 ((1 : Nat) : Int)))), none⟩,
    ⟨some 10, .p (.mov (.t 53)), none⟩] [6, 8, 9, 10, 11])
def c_ref11_side_b2 : VCode := .draw 7 [⟨some 34, .p (.mov (.t 9)), none⟩,
    ⟨some 35, .p (.mov (.t 10)), none⟩,
    ⟨some 36, .p (.mov (.t 9)), none⟩,
    ⟨some 37, .p (.mov (.t 10)), none⟩,
    ⟨some 38, .p (.idxA 1 (.t 36) (.t 37)), none⟩,
    ⟨some 39, .p (.load false 1 (.t 38)), none⟩,
    ⟨some 40, .p (.mov (.t 6)), none⟩,
    ⟨some 41, .p (.mov (.t 11)), none⟩,
    ⟨some 42, .p (.idxA 2 (.t 40) (.t 41)), none⟩,
    ⟨some 43, .p (.fieldA 1 1 (.t 42)), none⟩,
    ⟨some 44, .p (.load false 1 (.t 43)), none⟩,
    ⟨some 45, .p (.bin 9 .add (.t 39) (.t 44)), none⟩,
    ⟨some 46, .p (.idxA 1 (.t 34) (.t 35)), none⟩,
    ⟨none, .s (.store 1 (.t 46) (.t 45)), none⟩] [6, 8, 9, 10, 11]
def c_ref11_side_k3 : VCode := .cond (.t 54)
  (.ops [⟨some 56, .p (.mov (.t 10)), none⟩,
      ⟨some 57, .p (.bin 3 .add (.t 56) (.c (.int .i64 ((1 : Nat) : Int)))), none⟩,
      ⟨some 10, .p (.mov (.t 57)), none⟩] [6, 8, 9, 10, 11])
  c_ref11_side_b2
def c_ref11_side_b4 : VCode := .seq (.ops [⟨some 55, .p (.bin 3 .eql (.t 33) (.c (.int .i64 ((1 : Nat) : Int)))), none⟩,
    ⟨some 54, .p (.mov (.t 55)), none⟩] [6, 8, 9, 10, 11, 54])
  c_ref11_side_k3
def c_ref11_side_k5 : VCode := .cond (.t 47)
  c_ref11_side_b1
  c_ref11_side_b4
def c_ref11_side_k6 : VCode := .block 2 (.seq (.ops [⟨some 48, .p (.bin 3 .eql (.t 33) (.c (.int .i64 ((0 : Nat) : Int)))), none⟩,
    ⟨some 47, .p (.mov (.t 48)), none⟩] [6, 8, 9, 10, 11, 33, 47])
  c_ref11_side_k5)
def c_ref11_side_k7 : VCode := .seq (.block 1 (.seq (.ops [⟨some 29, .p (.mov (.t 6)), none⟩,
    ⟨some 30, .p (.mov (.t 11)), none⟩,
    ⟨some 31, .p (.idxA 2 (.t 29) (.t 30)), none⟩,
    ⟨some 32, .p (.fieldA 0 0 (.t 31)), none⟩,
    ⟨some 33, .p (.load false 1 (.t 32)), none⟩] [6, 8, 9, 10, 11, 33])
  c_ref11_side_k6))
  (.ops [⟨some 27, .p (.mov (.t 11)), none⟩,
    ⟨some 28, .p (.bin 3 .add (.t 27) (.c (.int .i64 ((1 : Nat) : Int)))), none⟩,
    ⟨some 11, .p (.mov (.t 28)), none⟩] [6, 8, 9, 10, 11])
def c_ref11_side_L8 : VCode := .seq (.seq (.ops [⟨some 23, .p (.mov (.t 11)), none⟩,
    ⟨some 24, .p (.mov (.t 6)), none⟩,
    ⟨some 25, .p (.lenV (.t 24)), none⟩,
    ⟨some 26, .p (.bin 3 .lss (.t 23) (.t 25)), none⟩] [6, 8, 9, 10, 11, 26])
  (.cond (.t 26)
  (.skip)
  (.exit 0)))
  c_ref11_side_k7
def c_ref11_side_k9 : VCode := .block 0 (.loop [6, 8, 9, 10, 11] c_ref11_side_L8)
def c_ref11_side_k10 : VCode := .seq (.ops [⟨some 58, .p (.mov (.t 8)), none⟩,
    ⟨some 59, .p (.mov (.t 9)), none⟩,
    ⟨some 4, .p (.mov (.t 58)), none⟩,
    ⟨some 5, .p (.mov (.t 59)), none⟩] [4, 5])
  (.ret)
def c_ref11_side_k11 : VCode := .seq (.seq (.ops [⟨some 11, .p (.mov (.c (.int .i64 ((0 : Nat) : Int)))), none⟩] [6, 8, 9, 10, 11])
  c_ref11_side_k9)
  c_ref11_side_k10
def c_ref11_side_k12 : VCode := .seq (.ops [⟨some 10, .p (.mov (.c (.int .i64 ((0 : Nat) : Int)))), none⟩] [6, 8, 9, 10])
  c_ref11_side_k11
def c_ref11_side_k13 : VCode := .seq (.ops [⟨some 20, .p (.mov (.t 7)), none⟩,
    ⟨some 21, .p (.bin 3 .add (.t 20) (.c (.int .i64 ((1 : Nat) : Int)))), none⟩,
    ⟨some 22, .s (.mks 1 16 (.val (.string (str []))) (.t 21) (.t 21)), none⟩,
    ⟨some 9, .p (.mov (.t 22)), none⟩] [6, 8, 9])
  c_ref11_side_k12
def c_ref11_side_k14 : VCode := .seq (.ops [⟨some 18, .p (.mov (.t 7)), none⟩,
    ⟨some 19, .s (.mks 1 1 (.val (.bool false)) (.t 18) (.t 18)), none⟩,
    ⟨some 8, .p (.mov (.t 19)), none⟩] [6, 7, 8])
  c_ref11_side_k13
def c_ref11_side_k15 : VCode := .seq (.ops [⟨some 15, .p (.mov (.t 0)), none⟩,
    ⟨some 16, .s (.call 25 [.t 15]), none⟩,
    ⟨some 17, .p (.lenV (.t 16)), none⟩,
    ⟨some 7, .p (.mov (.t 17)), none⟩] [6, 7])
  c_ref11_side_k14
def c_ref11_side_k16 : VCode := .seq (.ops [⟨some 12, .p (.mov (.t 0)), none⟩,
    ⟨some 13, .p (.mov (.t 1)), none⟩,
    ⟨some 14, .s (.call 26 [.t 12, .t 13]), none⟩,
    ⟨some 6, .p (.mov (.t 14)), none⟩] [0, 6])
  c_ref11_side_k15
def c_ref11_side : VCode := .seq (.ops [⟨some 4, .p (.mov (.c (.slice none 0 0))), none⟩,
    ⟨some 5, .p (.mov (.c (.slice none 0 0))), none⟩] [0, 1])
  c_ref11_side_k16
def r_ref11_side : List VR := [.tmp 4, .tmp 5]
theorem t_ref11_side : Try.f43.body.bind (trC Try.prog Try.f43.ntmps) = some (er c_ref11_side) := by kernel_rfl
theorem w_ref11_side : trR Try.prog Try.f43.results.toList = some r_ref11_side := by kernel_rfl
theorem u_ref11_side_b1_e {P : Program} {Q : VEx → Env → List Ob → Prop} {e : Env} {H : List Ob} : vwp P c_ref11_side_b1 Q e H = vwp P (.seq (.ops [⟨some 49, .p (.mov (.t 8)), none⟩,
    ⟨some 50, .p (.mov (.t 10)), none⟩,
    ⟨some 51, .p (.idxA 1 (.t 49) (.t 50)), none⟩,
    ⟨none, .s (.store 1 (.t 51) (.c (.bool true))), none⟩] [6, 8, 9, 10, 11])
  (.ops [⟨some 52, .p (.mov (.t 10)), none⟩,
    ⟨some 53, .p (.bin 3 .add (.t 52) (.c (.int .i64 ((1 : Nat) : Int)))), none⟩,
    ⟨some 10, .p (.mov (.t 53)), none⟩] [6, 8, 9, 10, 11])) Q e H := by_refl rfl
theorem u_ref11_side_b2_e {P : Program} {Q : VEx → Env → List Ob → Prop} {e : Env} {H : List Ob} : vwp P c_ref11_side_b2 Q e H = vwp P (.draw 7 [⟨some 34, .p (.mov (.t 9)), none⟩,
    ⟨some 35, .p (.mov (.t 10)), none⟩,
    ⟨some 36, .p (.mov (.t 9)), none⟩,
    ⟨some 37, .p (.mov (.t 10)), none⟩,
    ⟨some 38, .p (.idxA 1 (.t 36) (.t 37)), none⟩,
    ⟨some 39, .p (.load false 1 (.t 38)), none⟩,
    ⟨some 40, .p (.mov (.t 6)), none⟩,
    ⟨some 41, .p (.mov (.t 11)), none⟩,
    ⟨some 42, .p (.idxA 2 (.t 40) (.t 41)), none⟩,
    ⟨some 43, .p (.fieldA 1 1 (.t 42)), none⟩,
    ⟨some 44, .p (.load false 1 (.t 43)), none⟩,
    ⟨some 45, .p (.bin 9 .add (.t 39) (.t 44)), none⟩,
    ⟨some 46, .p (.idxA 1 (.t 34) (.t 35)), none⟩,
    ⟨none, .s (.store 1 (.t 46) (.t 45)), none⟩] [6, 8, 9, 10, 11]) Q e H := by_refl rfl
theorem u_ref11_side_k3_e {P : Program} {Q : VEx → Env → List Ob → Prop} {e : Env} {H : List Ob} : vwp P c_ref11_side_k3 Q e H = vwp P (.cond (.t 54)
  (.ops [⟨some 56, .p (.mov (.t 10)), none⟩,
      ⟨some 57, .p (.bin 3 .add (.t 56) (.c (.int .i64 ((1 : Nat) : Int)))), none⟩,
      ⟨some 10, .p (.mov (.t 57)), none⟩] [6, 8, 9, 10, 11])
  c_ref11_side_b2) Q e H := by_refl rfl
theorem u_ref11_side_b4_e {P : Program} {Q : VEx → Env → List Ob → Prop} {e : Env} {H : List Ob} : vwp P c_ref11_side_b4 Q e H = vwp P (.seq (.ops [⟨some 55, .p (.bin 3 .eql (.t 33) (.c (.int .i64 ((1 : Nat) : Int)))), none⟩,
    ⟨some 54, .p (.mov (.t 55)), none⟩] [6, 8, 9, 10, 11, 54])
  c_ref11_side_k3) Q e H := by_refl rfl
theorem u_ref11_side_k5_e {P : Program} {Q : VEx → Env → List Ob → Prop} {e : Env} {H : List Ob} : vwp P c_ref11_side_k5 Q e H = vwp P (.cond (.t 47)
  c_ref11_side_b1
  c_ref11_side_b4) Q e H := by_refl rfl
theorem u_ref11_side_k6_e {P : Program} {Q : VEx → Env → List Ob → Prop} {e : Env} {H : List Ob} : vwp P c_ref11_side_k6 Q e H = vwp P (.block 2 (.seq (.ops [⟨some 48, .p (.bin 3 .eql (.t 33) (.c (.int .i64 ((0 : Nat) : Int)))), none⟩,
    ⟨some 47, .p (.mov (.t 48)), none⟩] [6, 8, 9, 10, 11, 33, 47])
  c_ref11_side_k5)) Q e H := by_refl rfl
theorem u_ref11_side_k7_e {P : Program} {Q : VEx → Env → List Ob → Prop} {e : Env} {H : List Ob} : vwp P c_ref11_side_k7 Q e H = vwp P (.seq (.block 1 (.seq (.ops [⟨some 29, .p (.mov (.t 6)), none⟩,
    ⟨some 30, .p (.mov (.t 11)), none⟩,
    ⟨some 31, .p (.idxA 2 (.t 29) (.t 30)), none⟩,
    ⟨some 32, .p (.fieldA 0 0 (.t 31)), none⟩,
    ⟨some 33, .p (.load false 1 (.t 32)), none⟩] [6, 8, 9, 10, 11, 33])
  c_ref11_side_k6))
  (.ops [⟨some 27, .p (.mov (.t 11)), none⟩,
    ⟨some 28, .p (.bin 3 .add (.t 27) (.c (.int .i64 ((1 : Nat) : Int)))), none⟩,
    ⟨some 11, .p (.mov (.t 28)), none⟩] [6, 8, 9, 10, 11])) Q e H := by_refl rfl
theorem u_ref11_side_L8_e {P : Program} {Q : VEx → Env → List Ob → Prop} {e : Env} {H : List Ob} : vwp P c_ref11_side_L8 Q e H = vwp P (.seq (.seq (.ops [⟨some 23, .p (.mov (.t 11)), none⟩,
    ⟨some 24, .p (.mov (.t 6)), none⟩,
    ⟨some 25, .p (.lenV (.t 24)), none⟩,
    ⟨some 26, .p (.bin 3 .lss (.t 23) (.t 25)), none⟩] [6, 8, 9, 10, 11, 26])
  (.cond (.t 26)
  (.skip)
  (.exit 0)))
  c_ref11_side_k7) Q e H := by_refl rfl
theorem u_ref11_side_k9_e {P : Program} {Q : VEx → Env → List Ob → Prop} {e : Env} {H : List Ob} : vwp P c_ref11_side_k9 Q e H = vwp P (.block 0 (.loop [6, 8, 9, 10, 11] c_ref11_side_L8)) Q e H := by_refl rfl
theorem u_ref11_side_k10_e {P : Program} {Q : VEx → Env → List Ob → Prop} {e : Env} {H : List Ob} : vwp P c_ref11_side_k10 Q e H = vwp P (.seq (.ops [⟨some 58, .p (.mov (.t 8)), none⟩,
    ⟨some 59, .p (.mov (.t 9)), none⟩,
    ⟨some 4, .p (.mov (.t 58)), none⟩,
    ⟨some 5, .p (.mov (.t 59)), none⟩] [4, 5])
  (.ret)) Q e H := by_refl rfl
theorem u_ref11_side_k11_e {P : Program} {Q : VEx → Env → List Ob → Prop} {e : Env} {H : List Ob} : vwp P c_ref11_side_k11 Q e H = vwp P (.seq (.seq (.ops [⟨some 11, .p (.mov (.c (.int .i64 ((0 : Nat) : Int)))), none⟩] [6, 8, 9, 10, 11])
  c_ref11_side_k9)
  c_ref11_side_k10) Q e H := by_refl rfl
theorem u_ref11_side_k12_e {P : Program} {Q : VEx → Env → List Ob → Prop} {e : Env} {H : List Ob} : vwp P c_ref11_side_k12 Q e H = vwp P (.seq (.ops [⟨some 10, .p (.mov (.c (.int .i64 ((0 : Nat) : Int)))), none⟩] [6, 8, 9, 10])
  c_ref11_side_k11) Q e H := by_refl rfl
theorem u_ref11_side_k13_e {P : Program} {Q : VEx → Env → List Ob → Prop} {e : Env} {H : List Ob} : vwp P c_ref11_side_k13 Q e H = vwp P (.seq (.ops [⟨some 20, .p (.mov (.t 7)), none⟩,
    ⟨some 21, .p (.bin 3 .add (.t 20) (.c (.int .i64 ((1 : Nat) : Int)))), none⟩,
    ⟨some 22, .s (.mks 1 16 (.val (.string (str []))) (.t 21) (.t 21)), none⟩,
    ⟨some 9, .p (.mov (.t 22)), none⟩] [6, 8, 9])
  c_ref11_side_k12) Q e H := by_refl rfl
theorem u_ref11_side_k14_e {P : Program} {Q : VEx → Env → List Ob → Prop} {e : Env} {H : List Ob} : vwp P c_ref11_side_k14 Q e H = vwp P (.seq (.ops [⟨some 18, .p (.mov (.t 7)), none⟩,
    ⟨some 19, .s (.mks 1 1 (.val (.bool false)) (.t 18) (.t 18)), none⟩,
    ⟨some 8, .p (.mov (.t 19)), none⟩] [6, 7, 8])
  c_ref11_side_k13) Q e H := by_refl rfl
theorem u_ref11_side_k15_e {P : Program} {Q : VEx → Env → List Ob → Prop} {e : Env} {H : List Ob} : vwp P c_ref11_side_k15 Q e H = vwp P (.seq (.ops [⟨some 15, .p (.mov (.t 0)), none⟩,
    ⟨some 16, .s (.call 25 [.t 15]), none⟩,
    ⟨some 17, .p (.lenV (.t 16)), none⟩,
    ⟨some 7, .p (.mov (.t 17)), none⟩] [6, 7])
  c_ref11_side_k14) Q e H := by_refl rfl
theorem u_ref11_side_k16_e {P : Program} {Q : VEx → Env → List Ob → Prop} {e : Env} {H : List Ob} : vwp P c_ref11_side_k16 Q e H = vwp P (.seq (.ops [⟨some 12, .p (.mov (.t 0)), none⟩,
    ⟨some 13, .p (.mov (.t 1)), none⟩,
    ⟨some 14, .s (.call 26 [.t 12, .t 13]), none⟩,
    ⟨some 6, .p (.mov (.t 14)), none⟩] [0, 6])
  c_ref11_side_k15) Q e H := by_refl rfl
theorem u_ref11_side_e {P : Program} {Q : VEx → Env → List Ob → Prop} {e : Env} {H : List Ob} : vwp P c_ref11_side Q e H = vwp P (.seq (.ops [⟨some 4, .p (.mov (.c (.slice none 0 0))), none⟩,
    ⟨some 5, .p (.mov (.c (.slice none 0 0))), none⟩] [0, 1])
  c_ref11_side_k16) Q e H := by_refl rfl
theorem u_ref11_side_r {K : TV → Prop} {e : Env} {H : List Ob} : res r_ref11_side e H K = res [.tmp 4, .tmp 5] e H K := by_refl rfl
def u_ref11_side := (And.intro (And.intro (And.intro (And.intro (And.intro @u_ref11_side_b1_e @u_ref11_side_b2_e) (And.intro @u_ref11_side_k3_e @u_ref11_side_b4_e)) (And.intro (And.intro @u_ref11_side_k5_e @u_ref11_side_k6_e) (And.intro @u_ref11_side_k7_e @u_ref11_side_L8_e))) (And.intro (And.intro (And.intro @u_ref11_side_k9_e @u_ref11_side_k10_e) (And.intro @u_ref11_side_k11_e @u_ref11_side_k12_e)) (And.intro (And.intro @u_ref11_side_k13_e @u_ref11_side_k14_e) (And.intro @u_ref11_side_k15_e @u_ref11_side_k16_e)))) (And.intro @u_ref11_side_e @u_ref11_side_r))
theorem go_ref11_side {args : List TV} {H : List Ob} {R : TV → List Ob → Prop} (hn : args.length ≤ 60) (h : vwp Try.prog c_ref11_side (atEnd r_ref11_side R) (argsE 0 args) H) : VCalls Try.prog 43 args H R := vcalls_of Try.func43 t_ref11_side w_ref11_side hn h

/-! gitlike/gitlikeref11.Texts -/
def c_ref11_Texts_b1 : VCode := .ops [⟨some 85, .p (.mov (.t 20)), none⟩,
    ⟨some 86, .p (.mov (.t 12)), none⟩,
    ⟨some 87, .p (.mov (.t 22)), none⟩,
    ⟨some 88, .p (.idxA 1 (.t 86) (.t 87)), none⟩,
    ⟨some 89, .p (.load false 1 (.t 88)), none⟩,
    ⟨some 90, .p (.bin 9 .add (.t 85) (.t 89)), none⟩,
    ⟨some 20, .p (.mov (.t 90)), none⟩] [3, 4, 12, 13, 14, 15, 16, 17, 18, 19, 20, 21, 22]
def c_ref11_Texts_b2 : VCode := .ops [⟨some 95, .p (.mov (.t 21)), none⟩,
    ⟨some 96, .p (.mov (.t 12)), none⟩,
    ⟨some 97, .p (.mov (.t 22)), none⟩,
    ⟨some 98, .p (.idxA 1 (.t 96) (.t 97)), none⟩,
    ⟨some 99, .p (.load false 1 (.t 98)), none⟩,
    ⟨some 100, .p (.bin 9 .add (.t 95) (.t 99)), none⟩,
    ⟨some 21, .p (.mov (.t 100)), none⟩] [3, 4, 12, 13, 14, 15, 16, 17, 18, 19, 20, 21, 22]
def c_ref11_Texts_k3 : VCode := .seq (.seq (.ops [⟨some 81, .p (.mov (.t 13)), none⟩,
    ⟨some 82, .p (.mov (.t 22)), none⟩,
    ⟨some 83, .p (.idxA 1 (.t 81) (.t 82)), none⟩,
    ⟨some 84, .p (.load false 1 (.t 83)), none⟩] [3, 4, 12, 13, 14, 15, 16, 17, 18, 19, 20, 21, 22, 84])
  (.cond (.t 84)
  c_ref11_Texts_b1
  (.skip)))
  (.seq (.seq (.ops [⟨some 91, .p (.mov (.t 15)), none⟩,
    ⟨some 92, .p (.mov (.t 22)), none⟩,
    ⟨some 93, .p (.idxA 1 (.t 91) (.t 92)), none⟩,
    ⟨some 94, .p (.load false 1 (.t 93)), none⟩] [3, 4, 12, 13, 14, 15, 16, 17, 18, 19, 20, 21, 22, 94])
  (.cond (.t 94)
  c_ref11_Texts_b2
  (.skip)))
  (.exit 1))
def c_ref11_Texts_b4 : VCode := .seq (.ops [⟨some 75, .p (.mov (.t 19)), none⟩,
    ⟨some 76, .p (.mov (.t 12)), none⟩,
    ⟨some 77, .p (.mov (.t 22)), none⟩,
    ⟨some 78, .p (.idxA 1 (.t 76) (.t 77)), none⟩,
    ⟨some 79, .p (.load false 1 (.t 78)), none⟩,
    ⟨some 80, .p (.bin 9 .add (.t 75) (.t 79)), none⟩,
    ⟨some 19, .p (.mov (.t 80)), none⟩] [3, 4, 12, 13, 14, 15, 16, 17, 18, 19, 20, 21, 22])
  c_ref11_Texts_k3
def c_ref11_Texts_k5 : VCode := .cond (.t 74)
  c_ref11_Texts_b4
  (.skip)
def c_ref11_Texts_b6 : VCode := .ops [⟨some 120, .p (.mov (.t 17)), none⟩,
    ⟨some 121, .p (.mov (.t 12)), none⟩,
    ⟨some 122, .p (.mov (.t 22)), none⟩,
    ⟨some 123, .p (.idxA 1 (.t 121) (.t 122)), none⟩,
    ⟨some 124, .p (.load false 1 (.t 123)), none⟩,
    ⟨some 125, .p (.bin 9 .add (.t 120) (.t 124)), none⟩,
    ⟨some 17, .p (.mov (.t 125)), none⟩] [3, 4, 12, 13, 14, 15, 16, 17, 18, 19, 20, 21, 22]
def c_ref11_Texts_k7 : VCode := .seq (.ops [⟨some 20, .p (.mov (.c (.string (str [])))), none⟩] [3, 4, 12, 13, 14, 15, 16, 17, 18, 19, 20, 22])
  (.seq (.ops [⟨some 21, .p (.mov (.c (.string (str [])))), none⟩] [3, 4, 12, 13, 14, 15, 16, 17, 18, 19, 20, 21, 22])
  (.seq (.ops [⟨some 116, .p (.mov (.t 22)), none⟩,
    ⟨some 117, .p (.mov (.t 12)), none⟩,
    ⟨some 118, .p (.lenV (.t 117)), none⟩,
    ⟨some 119, .p (.bin 3 .lss (.t 116) (.t 118)), none⟩] [3, 4, 12, 13, 14, 15, 16, 17, 18, 19, 20, 21, 22, 119])
  (.cond (.t 119)
  c_ref11_Texts_b6
  (.skip))))
def c_ref11_Texts_k8 : VCode := .seq (.ops [⟨some 19, .p (.mov (.c (.string (str [])))), none⟩] [3, 4, 12, 13, 14, 15, 16, 17, 18, 19, 22])
  c_ref11_Texts_k7
def c_ref11_Texts_k9 : VCode := .seq (.ops [⟨some 113, .p (.mov (.t 18)), none⟩,
    ⟨some 114, .p (.mov (.t 24)), none⟩,
    ⟨some 115, .p (.bin 3 .add (.t 113) (.t 114)), none⟩,
    ⟨some 18, .p (.mov (.t 115)), none⟩] [3, 4, 12, 13, 14, 15, 16, 17, 18, 22])
  c_ref11_Texts_k8
def c_ref11_Texts_k10 : VCode := .seq (.ops [⟨some 110, .p (.mov (.t 17)), none⟩,
    ⟨some 111, .p (.mov (.t 23)), none⟩,
    ⟨some 112, .p (.bin 9 .add (.t 110) (.t 111)), none⟩,
    ⟨some 17, .p (.mov (.t 112)), none⟩] [3, 4, 12, 13, 14, 15, 16, 17, 18, 22, 24])
  c_ref11_Texts_k9
def c_ref11_Texts_k11 : VCode := .seq (.ops [⟨some 102, .p (.mov (.t 19)), none⟩,
    ⟨some 103, .p (.mov (.t 20)), none⟩,
    ⟨some 104, .p (.mov (.t 21)), none⟩,
    ⟨some 105, .p (.mov (.t 3)), none⟩,
    ⟨some 106, .p (.mov (.t 4)), none⟩,
    ⟨some 107, .s (.call 44 [.t 102, .t 103, .t 104, .t 105, .t 106]), none⟩,
    ⟨some 101, .p (.mov (.t 107)), none⟩,
    ⟨some 108, .p (.ext 0 (.t 101)), none⟩,
    ⟨some 109, .p (.ext 1 (.t 101)), none⟩,
    ⟨some 23, .p (.mov (.t 108)), none⟩,
    ⟨some 24, .p (.mov (.t 109)), none⟩] [3, 4, 12, 13, 14, 15, 16, 17, 18, 22, 23, 24])
  c_ref11_Texts_k10
def c_ref11_Texts_k12 : VCode := .seq (.seq (.ops [⟨some 57, .p (.mov (.t 22)), none⟩,
    ⟨some 58, .p (.mov (.t 12)), none⟩,
    ⟨some 59, .p (.lenV (.t 58)), none⟩,
    ⟨some 60, .p (.bin 3 .lss (.t 57) (.t 59)), none⟩,
    ⟨some 61, .p (.mov (.t 60)), none⟩,
    ⟨some 62, .p (.mov (.t 13)), some ⟨61, true⟩⟩,
    ⟨some 63, .p (.mov (.t 22)), some ⟨61, true⟩⟩,
    ⟨some 64, .p (.idxA 1 (.t 62) (.t 63)), some ⟨61, true⟩⟩,
    ⟨some 65, .p (.load false 1 (.t 64)), some ⟨61, true⟩⟩,
    ⟨some 66, .p (.un .not (.t 65)), some ⟨61, true⟩⟩,
    ⟨some 67, .p (.mov (.t 66)), some ⟨61, true⟩⟩,
    ⟨some 68, .p (.mov (.t 15)), some ⟨67, false⟩⟩,
    ⟨some 69, .p (.mov (.t 22)), some ⟨67, false⟩⟩,
    ⟨some 70, .p (.idxA 1 (.t 68) (.t 69)), some ⟨67, false⟩⟩,
    ⟨some 71, .p (.load false 1 (.t 70)), some ⟨67, false⟩⟩,
    ⟨some 72, .p (.un .not (.t 71)), some ⟨67, false⟩⟩,
    ⟨some 73, .p (.pick (.t 67) (.c (.bool true)) (.t 72)), some ⟨61, true⟩⟩,
    ⟨some 74, .p (.pick (.t 61) (.t 73) (.c (.bool false))), none⟩] [3, 4, 12, 13, 14, 15, 16, 17, 18, 19, 20, 21, 22, 74])
  c_ref11_Texts_k5)
  c_ref11_Texts_k11
def c_ref11_Texts_k13 : VCode := .seq (.ops [⟨some 51, .p (.mov (.t 21)), none⟩,
    ⟨some 52, .p (.mov (.t 16)), none⟩,
    ⟨some 53, .p (.mov (.t 22)), none⟩,
    ⟨some 54, .p (.idxA 1 (.t 52) (.t 53)), none⟩,
    ⟨some 55, .p (.load false 1 (.t 54)), none⟩,
    ⟨some 56, .p (.bin 9 .add (.t 51) (.t 55)), none⟩,
    ⟨some 21, .p (.mov (.t 56)), none⟩] [3, 4, 12, 13, 14, 15, 16, 17, 18, 19, 20, 21, 22])
  c_ref11_Texts_k12
def c_ref11_Texts_k14 : VCode := .seq (.block 1 (.seq (.ops [⟨some 45, .p (.mov (.t 20)), none⟩,
    ⟨some 46, .p (.mov (.t 14)), none⟩,
    ⟨some 47, .p (.mov (.t 22)), none⟩,
    ⟨some 48, .p (.idxA 1 (.t 46) (.t 47)), none⟩,
    ⟨some 49, .p (.load false 1 (.t 48)), none⟩,
    ⟨some 50, .p (.bin 9 .add (.t 45) (.t 49)), none⟩,
    ⟨some 20, .p (.mov (.t 50)), none⟩] [3, 4, 12, 13, 14, 15, 16, 17, 18, 19, 20, 21, 22])
  c_ref11_Texts_k13))
  (.ops [⟨some 43, .p (.mov (.t 22)), none⟩,
    ⟨some 44, .p (.bin 3 .add (.t 43) (.c (.int .i64 ((1 : Nat) : Int)))), none⟩,
    ⟨some 22, .p (.mov (.t 44)), none⟩] [3, 4, 12, 13, 14, 15, 16, 17, 18, 19, 20, 21, 22])
def c_ref11_Texts_L15 : VCode := .seq (.seq (.ops [⟨some 39, .p (.mov (.t 22)), none⟩,
    ⟨some 40, .p (.mov (.t 12)), none⟩,
    ⟨some 41, .p (.lenV (.t 40)), none⟩,
    ⟨some 42, .p (.bin 3 .leq (.t 39) (.t 41)), none⟩] [3, 4, 12, 13, 14, 15, 16, 17, 18, 19, 20, 21, 22, 42])
  (.cond (.t 42)
  (.skip)
  (.exit 0)))
  c_ref11_Texts_k14
def c_ref11_Texts_k16 : VCode := .block 0 (.loop [3, 4, 12, 13, 14, 15, 16, 17, 18, 19, 20, 21, 22] c_ref11_Texts_L15)
def c_ref11_Texts_k17 : VCode := .seq (.ops [⟨some 126, .p (.mov (.t 17)), none⟩,
    ⟨some 127, .s (.s2b (.t 126)), none⟩,
    ⟨some 128, .p (.mov (.t 18)), none⟩,
    ⟨some 10, .p (.mov (.t 127)), none⟩,
    ⟨some 11, .p (.mov (.t 128)), none⟩] [10, 11])
  (.ret)
def c_ref11_Texts_k18 : VCode := .seq (.seq (.ops [⟨some 22, .p (.mov (.c (.int .i64 ((0 : Nat) : Int)))), none⟩] [3, 4, 12, 13, 14, 15, 16, 17, 18, 19, 20, 21, 22])
  c_ref11_Texts_k16)
  c_ref11_Texts_k17
def c_ref11_Texts_k19 : VCode := .seq (.ops [⟨some 21, .p (.mov (.c (.string (str [])))), none⟩] [3, 4, 12, 13, 14, 15, 16, 17, 18, 19, 20, 21])
  c_ref11_Texts_k18
def c_ref11_Texts_k20 : VCode := .seq (.ops [⟨some 20, .p (.mov (.c (.string (str [])))), none⟩] [3, 4, 12, 13, 14, 15, 16, 17, 18, 19, 20])
  c_ref11_Texts_k19
def c_ref11_Texts_k21 : VCode := .seq (.ops [⟨some 19, .p (.mov (.c (.string (str [])))), none⟩] [3, 4, 12, 13, 14, 15, 16, 17, 18, 19])
  c_ref11_Texts_k20
def c_ref11_Texts_k22 : VCode := .seq (.ops [⟨some 18, .p (.mov (.c (.int .i64 ((0 : Nat) : Int)))), none⟩] [3, 4, 12, 13, 14, 15, 16, 17, 18])
  c_ref11_Texts_k21
def c_ref11_Texts_k23 : VCode := .seq (.ops [⟨some 17, .p (.mov (.c (.string (str [])))), none⟩] [3, 4, 12, 13, 14, 15, 16, 17])
  c_ref11_Texts_k22
def c_ref11_Texts_k24 : VCode := .seq (.ops [⟨some 34, .p (.mov (.t 0)), none⟩,
    ⟨some 35, .p (.mov (.t 2)), none⟩,
    ⟨some 36, .s (.call 43 [.t 34, .t 35]), none⟩,
    ⟨some 33, .p (.mov (.t 36)), none⟩,
    ⟨some 37, .p (.ext 0 (.t 33)), none⟩,
    ⟨some 38, .p (.ext 1 (.t 33)), none⟩,
    ⟨some 15, .p (.mov (.t 37)), none⟩,
    ⟨some 16, .p (.mov (.t 38)), none⟩] [3, 4, 12, 13, 14, 15, 16])
  c_ref11_Texts_k23
def c_ref11_Texts_k25 : VCode := .seq (.ops [⟨some 28, .p (.mov (.t 0)), none⟩,
    ⟨some 29, .p (.mov (.t 1)), none⟩,
    ⟨some 30, .s (.call 43 [.t 28, .t 29]), none⟩,
    ⟨some 27, .p (.mov (.t 30)), none⟩,
    ⟨some 31, .p (.ext 0 (.t 27)), none⟩,
    ⟨some 32, .p (.ext 1 (.t 27)), none⟩,
    ⟨some 13, .p (.mov (.t 31)), none⟩,
    ⟨some 14, .p (.mov (.t 32)), none⟩] [0, 2, 3, 4, 12, 13, 14])
  c_ref11_Texts_k24
def c_ref11_Texts_k26 : VCode := .seq (.ops [⟨some 25, .p (.mov (.t 0)), none⟩,
    ⟨some 26, .s (.call 25 [.t 25]), none⟩,
    ⟨some 12, .p (.mov (.t 26)), none⟩] [0, 1, 2, 3, 4, 12])
  c_ref11_Texts_k25
def c_ref11_Texts : VCode := .seq (.ops [⟨some 10, .p (.mov (.c (.slice none 0 0))), none⟩,
    ⟨some 11, .p (.mov (.c (.int .i64 ((0 : Nat) : Int)))), none⟩] [0, 1, 2, 3, 4])
  c_ref11_Texts_k26
def r_ref11_Texts : List VR := [.tmp 10, .tmp 11]
theorem t_ref11_Texts : Try.f29.body.bind (trC Try.prog Try.f29.ntmps) = some (er c_ref11_Texts) := by kernel_rfl
theorem w_ref11_Texts : trR Try.prog Try.f29.results.toList = some r_ref11_Texts := by kernel_rfl
theorem u_ref11_Texts_b1_e {P : Program} {Q : VEx → Env → List Ob → Prop} {e : Env} {H : List Ob} : vwp P c_ref11_Texts_b1 Q e H = vwp P (.ops [⟨some 85, .p (.mov (.t 20)), none⟩,
    ⟨some 86, .p (.mov (.t 12)), none⟩,
    ⟨some 87, .p (.mov (.t 22)), none⟩,
    ⟨some 88, .p (.idxA 1 (.t 86) (.t 87)), none⟩,
    ⟨some 89, .p (.load false 1 (.t 88)), none⟩,
    ⟨some 90, .p (.bin 9 .add (.t 85) (.t 89)), none⟩,
    ⟨some 20, .p (.mov (.t 90)), none⟩] [3, 4, 12, 13, 14, 15, 16, 17, 18, 19, 20, 21, 22]) Q e H := by_refl rfl
theorem u_ref11_Texts_b2_e {P : Program} {Q : VEx → Env → List Ob → Prop} {e : Env} {H : List Ob} : vwp P c_ref11_Texts_b2 Q e H = vwp P (.ops [⟨some 95, .p (.mov (.t 21)), none⟩,
    ⟨some 96, .p (.mov (.t 12)), none⟩,
    ⟨some 97, .p (.mov (.t 22)), none⟩,
    ⟨some 98, .p (.idxA 1 (.t 96) (.t 97)), none⟩,
    ⟨some 99, .p (.load false 1 (.t 98)), none⟩,
    ⟨some 100, .p (.bin 9 .add (.t 95) (.t 99)), none⟩,
    ⟨some 21, .p (.mov (.t 100)), none⟩] [3, 4, 12, 13, 14, 15, 16, 17, 18, 19, 20, 21, 22]) Q e H := by_refl rfl
theorem u_ref11_Texts_k3_e {P : Program} {Q : VEx → Env → List Ob → Prop} {e : Env} {H : List Ob} : vwp P c_ref11_Texts_k3 Q e H = vwp P (.seq (.seq (.ops [⟨some 81, .p (.mov (.t 13)), none⟩,
    ⟨some 82, .p (.mov (.t 22)), none⟩,
    ⟨some 83, .p (.idxA 1 (.t 81) (.t 82)), none⟩,
    ⟨some 84, .p (.load false 1 (.t 83)), none⟩] [3, 4, 12, 13, 14, 15, 16, 17, 18, 19, 20, 21, 22, 84])
  (.cond (.t 84)
  c_ref11_Texts_b1
  (.skip)))
  (.seq (.seq (.ops [⟨some 91, .p (.mov (.t 15)), none⟩,
    ⟨some 92, .p (.mov (.t 22)), none⟩,
    ⟨some 93, .p (.idxA 1 (.t 91) (.t 92)), none⟩,
    ⟨some 94, .p (.load false 1 (.t 93)), none⟩] [3, 4, 12, 13, 14, 15, 16, 17, 18, 19, 20, 21, 22, 94])
  (.cond (.t 94)
  c_ref11_Texts_b2
  (.skip)))
  (.exit 1))) Q e H := by_refl rfl
theorem u_ref11_Texts_b4_e {P : Program} {Q : VEx → Env → List Ob → Prop} {e : Env} {H : List Ob} : vwp P c_ref11_Texts_b4 Q e H = vwp P (.seq (.ops [⟨some 75, .p (.mov (.t 19)), none⟩,
    ⟨some 76, .p (.mov (.t 12)), none⟩,
    ⟨some 77, .p (.mov (.t 22)), none⟩,
    ⟨some 78, .p (.idxA 1 (.t 76) (.t 77)), none⟩,
    ⟨some 79, .p (.load false 1 (.t 78)), none⟩,
    ⟨some 80, .p (.bin 9 .add (.t 75) (.t 79)), none⟩,
    ⟨some 19, .p (.mov (.t 80)), none⟩] [3, 4, 12, 13, 14, 15, 16, 17, 18, 19, 20, 21, 22])
  c_ref11_Texts_k3) Q e H := by_refl rfl
theorem u_ref11_Texts_k5_e {P : Program} {Q : VEx → Env → List Ob → Prop} {e : Env} {H : List Ob} : vwp P c_ref11_Texts_k5 Q e H = vwp P (.cond (.t 74)
  c_ref11_Texts_b4
  (.skip)) Q e H := by_refl rfl
theorem u_ref11_Texts_b6_e {P : Program} {Q : VEx → Env → List Ob → Prop} {e : Env} {H : List Ob} : vwp P c_ref11_Texts_b6 Q e H = vwp P (.ops [⟨some 120, .p (.mov (.t 17)), none⟩,
    ⟨some 121, .p (.mov (.t 12)), none⟩,
    ⟨some 122, .p (.mov (.t 22)), none⟩,
    ⟨some 123, .p (.idxA 1 (.t 121) (.t 122)), none⟩,
    ⟨some 124, .p (.load false 1 (.t 123)), none⟩,
    ⟨some 125, .p (.bin 9 .add (.t 120) (.t 124)), none⟩,
    ⟨some 17, .p (.mov (.t 125)), none⟩] [3, 4, 12, 13, 14, 15, 16, 17, 18, 19, 20, 21, 22]) Q e H := by_refl rfl
theorem u_ref11_Texts_k7_e {P : Program} {Q : VEx → Env → List Ob → Prop} {e : Env} {H : List Ob} : vwp P c_ref11_Texts_k7 Q e H = vwp P (.seq (.ops [⟨some 20, .p (.mov (.c (.string (str [])))), none⟩] [3, 4, 12, 13, 14, 15, 16, 17, 18, 19, 20, 22])
  (.seq (.ops [⟨some 21, .p (.mov (.c (.string (str [])))), none⟩] [3, 4, 12, 13, 14, 15, 16, 17, 18, 19, 20, 21, 22])
  (.seq (.ops [⟨some 116, .p (.mov (.t 22)), none⟩,
    ⟨some 117, .p (.mov (.t 12)), none⟩,
    ⟨some 118, .p (.lenV (.t 117)), none⟩,
    ⟨some 119, .p (.bin 3 .lss (.t 116) (.t 118)), none⟩] [3, 4, 12, 13, 14, 15, 16, 17, 18, 19, 20, 21, 22, 119])
  (.cond (.t 119)
  c_ref11_Texts_b6
  (.skip))))) Q e H := by_refl rfl
theorem u_ref11_Texts_k8_e {P : Program} {Q : VEx → Env → List Ob → Prop} {e : Env} {H : List Ob} : vwp P c_ref11_Texts_k8 Q e H = vwp P (.seq (.ops [⟨some 19, .p (.mov (.c (.string (str [])))), none⟩] [3, 4, 12, 13, 14, 15, 16, 17, 18, 19, 22])
  c_ref11_Texts_k7) Q e H := by_refl rfl
theorem u_ref11_Texts_k9_e {P : Program} {Q : VEx → Env → List Ob → Prop} {e : Env} {H : List Ob} : vwp P c_ref11_Texts_k9 Q e H = vwp P (.seq (.ops [⟨some 113, .p (.mov (.t 18)), none⟩,
    ⟨some 114, .p (.mov (.t 24)), none⟩,
    ⟨some 115, .p (.bin 3 .add (.t 113) (.t 114)), none⟩,
    ⟨some 18, .p (.mov (.t 115)), none⟩] [3, 4, 12, 13, 14, 15, 16, 17, 18, 22])
  c_ref11_Texts_k8) Q e H := by_refl rfl
theorem u_ref11_Texts_k10_e {P : Program} {Q : VEx → Env → List Ob → Prop} {e : Env} {H : List Ob} : vwp P c_ref11_Texts_k10 Q e H = vwp P (.seq (.ops [⟨some 110, .p (.mov (.t 17)), none⟩,
    ⟨some 111, .p (.mov (.t 23)), none⟩,
    ⟨some 112, .p (.bin 9 .add (.t 110) (.t 111)), none⟩,
    ⟨some 17, .p (.mov (.t 112)), none⟩] [3, 4, 12, 13, 14, 15, 16, 17, 18, 22, 24])
  c_ref11_Texts_k9) Q e H := by_refl rfl
theorem u_ref11_Texts_k11_e {P : Program} {Q : VEx → Env → List Ob → Prop} {e : Env} {H : List Ob} : vwp P c_ref11_Texts_k11 Q e H = vwp P (.seq (.ops [⟨some 102, .p (.mov (.t 19)), none⟩,
    ⟨some 103, .p (.mov (.t 20)), none⟩,
    ⟨some 104, .p (.mov (.t 21)), none⟩,
    ⟨some 105, .p (.mov (.t 3)), none⟩,
    ⟨some 106, .p (.mov (.t 4)), none⟩,
    ⟨some 107, .s (.call 44 [.t 102, .t 103, .t 104, .t 105, .t 106]), none⟩,
    ⟨some 101, .p (.mov (.t 107)), none⟩,
    ⟨some 108, .p (.ext 0 (.t 101)), none⟩,
    ⟨some 109, .p (.ext 1 (.t 101)), none⟩,
    ⟨some 23, .p (.mov (.t 108)), none⟩,
    ⟨some 24, .p (.mov (.t 109)), none⟩] [3, 4, 12, 13, 14, 15, 16, 17, 18, 22, 23, 24])
  c_ref11_Texts_k10) Q e H := by_refl rfl
theorem u_ref11_Texts_k12_e {P : Program} {Q : VEx → Env → List Ob → Prop} {e : Env} {H : List Ob} : vwp P c_ref11_Texts_k12 Q e H = vwp P (.seq (.seq (.ops [⟨some 57, .p (.mov (.t 22)), none⟩,
    ⟨some 58, .p (.mov (.t 12)), none⟩,
    ⟨some 59, .p (.lenV (.t 58)), none⟩,
    ⟨some 60, .p (.bin 3 .lss (.t 57) (.t 59)), none⟩,
    ⟨some 61, .p (.mov (.t 60)), none⟩,
    ⟨some 62, .p (.mov (.t 13)), some ⟨61, true⟩⟩,
    ⟨some 63, .p (.mov (.t 22)), some ⟨61, true⟩⟩,
    ⟨some 64, .p (.idxA 1 (.t 62) (.t 63)), some ⟨61, true⟩⟩,
    ⟨some 65, .p (.load false 1 (.t 64)), some ⟨61, true⟩⟩,
    ⟨some 66, .p (.un .not (.t 65)), some ⟨61, true⟩⟩,
    ⟨some 67, .p (.mov (.t 66)), some ⟨61, true⟩⟩,
    ⟨some 68, .p (.mov (.t 15)), some ⟨67, false⟩⟩,
    ⟨some 69, .p (.mov (.t 22)), some ⟨67, false⟩⟩,
    ⟨some 70, .p (.idxA 1 (.t 68) (.t 69)), some ⟨67, false⟩⟩,
    ⟨some 71, .p (.load false 1 (.t 70)), some ⟨67, false⟩⟩,
    ⟨some 72, .p (.un .not (.t 71)), some ⟨67, false⟩⟩,
    ⟨some 73, .p (.pick (.t 67) (.c (.bool true)) (.t 72)), some ⟨61, true⟩⟩,
    ⟨some 74, .p (.pick (.t 61) (.t 73) (.c (.bool false))), none⟩] [3, 4, 12, 13, 14, 15, 16, 17, 18, 19, 20, 21, 22, 74])
  c_ref11_Texts_k5)
  c_ref11_Texts_k11) Q e H := by_refl rfl
theorem u_ref11_Texts_k13_e {P : Program} {Q : VEx → Env → List Ob → Prop} {e : Env} {H : List Ob} : vwp P c_ref11_Texts_k13 Q e H = vwp P (.seq (.ops [⟨some 51, .p (.mov (.t 21)), none⟩,
    ⟨some 52, .p (.mov (.t 16)), none⟩,
    ⟨some 53, .p (.mov (.t 22)), none⟩,
    ⟨some 54, .p (.idxA 1 (.t 52) (.t 53)), none⟩,
    ⟨some 55, .p (.load false 1 (.t 54)), none⟩,
    ⟨some 56, .p (.bin 9 .add (.t 51) (.t 55)), none⟩,
    ⟨some 21, .p (.mov (.t 56)), none⟩] [3, 4, 12, 13, 14, 15, 16, 17, 18, 19, 20, 21, 22])
  c_ref11_Texts_k12) Q e H := by_refl rfl
theorem u_ref11_Texts_k14_e {P : Program} {Q : VEx → Env → List Ob → Prop} {e : Env} {H : List Ob} : vwp P c_ref11_Texts_k14 Q e H = vwp P (.seq (.block 1 (.seq (.ops [⟨some 45, .p (.mov (.t 20)), none⟩,
    ⟨some 46, .p (.mov (.t 14)), none⟩,
    ⟨some 47, .p (.mov (.t 22)), none⟩,
    ⟨some 48, .p (.idxA 1 (.t 46) (.t 47)), none⟩,
    ⟨some 49, .p (.load false 1 (.t 48)), none⟩,
    ⟨some 50, .p (.bin 9 .add (.t 45) (.t 49)), none⟩,
    ⟨some 20, .p (.mov (.t 50)), none⟩] [3, 4, 12, 13, 14, 15, 16, 17, 18, 19, 20, 21, 22])
  c_ref11_Texts_k13))
  (.ops [⟨some 43, .p (.mov (.t 22)), none⟩,
    ⟨some 44, .p (.bin 3 .add (.t 43) (.c (.int .i64 ((1 : Nat) : Int)))), none⟩,
    ⟨some 22, .p (.mov (.t 44)), none⟩] [3, 4, 12, 13, 14, 15, 16, 17, 18, 19, 20, 21, 22])) Q e H := by_refl rfl
theorem u_ref11_Texts_L15_e {P : Program} {Q : VEx → Env → List Ob → Prop} {e : Env} {H : List Ob} : vwp P c_ref11_Texts_L15 Q e H = vwp P (.seq (.seq (.ops [⟨some 39, .p (.mov (.t 22)), none⟩,
    ⟨some 40, .p (.mov (.t 12)), none⟩,
    ⟨some 41, .p (.lenV (.t 40)), none⟩,
    ⟨some 42, .p (.bin 3 .leq (.t 39) (.t 41)), none⟩] [3, 4, 12, 13, 14, 15, 16, 17, 18, 19, 20, 21, 22, 42])
  (.cond (.t 42)
  (.skip)
  (.exit 0)))
  c_ref11_Texts_k14) Q e H := by_refl rfl
theorem u_ref11_Texts_k16_e {P : Program} {Q : VEx → Env → List Ob → Prop} {e : Env} {H : List Ob} : vwp P c_ref11_Texts_k16 Q e H = vwp P (.block 0 (.loop [3, 4, 12, 13, 14, 15, 16, 17, 18, 19, 20, 21, 22] c_ref11_Texts_L15)) Q e H := by_refl rfl
theorem u_ref11_Texts_k17_e {P : Program} {Q : VEx → Env → List Ob → Prop} {e : Env} {H : List Ob} : vwp P c_ref11_Texts_k17 Q e H = vwp P (.seq (.ops [⟨some 126, .p (.mov (.t 17)), none⟩,
    ⟨some 127, .s (.s2b (.t 126)), none⟩,
    ⟨some 128, .p (.mov (.t 18)), none⟩,
    ⟨some 10, .p (.mov (.t 127)), none⟩,
    ⟨some 11, .p (.mov (.t 128)), none⟩] [10, 11])
  (.ret)) Q e H := by_refl rfl
theorem u_ref11_Texts_k18_e {P : Program} {Q : VEx → Env → List Ob → Prop} {e : Env} {H : List Ob} : vwp P c_ref11_Texts_k18 Q e H = vwp P (.seq (.seq (.ops [⟨some 22, .p (.mov (.c (.int .i64 ((0 : Nat) : Int)))), none⟩] [3, 4, 12, 13, 14, 15, 16, 17, 18, 19, 20, 21, 22])
  c_ref11_Texts_k16)
  c_ref11_Texts_k17) Q e H := by_refl rfl
theorem u_ref11_Texts_k19_e {P : Program} {Q : VEx → Env → List Ob → Prop} {e : Env} {H : List Ob} : vwp P c_ref11_Texts_k19 Q e H = vwp P (.seq (.ops [⟨some 21, .p (.mov (.c (.string (str [])))), none⟩] [3, 4, 12, 13, 14, 15, 16, 17, 18, 19, 20, 21])
  c_ref11_Texts_k18) Q e H := by_refl rfl
theorem u_ref11_Texts_k20_e {P : Program} {Q : VEx → Env → List Ob → Prop} {e : Env} {H : List Ob} : vwp P c_ref11_Texts_k20 Q e H = vwp P (.seq (.ops [⟨some 20, .p (.mov (.c (.string (str [])))), none⟩] [3, 4, 12, 13, 14, 15, 16, 17, 18, 19, 20])
  c_ref11_Texts_k19) Q e H := by_refl rfl
theorem u_ref11_Texts_k21_e {P : Program} {Q : VEx → Env → List Ob → Prop} {e : Env} {H : List Ob} : vwp P c_ref11_Texts_k21 Q e H = vwp P (.seq (.ops [⟨some 19, .p (.mov (.c (.string (str [])))), none⟩] [3, 4, 12, 13, 14, 15, 16, 17, 18, 19])
  c_ref11_Texts_k20) Q e H := by_refl rfl
theorem u_ref11_Texts_k22_e {P : Program} {Q : VEx → Env → List Ob → Prop} {e : Env} {H : List Ob} : vwp P c_ref11_Texts_k22 Q e H = vwp P (.seq (.ops [⟨some 18, .p (.mov (.c (.int .i64 ((0 : Nat) : Int)))), none⟩] [3, 4, 12, 13, 14, 15, 16, 17, 18])
  c_ref11_Texts_k21) Q e H := by_refl rfl
theorem u_ref11_Texts_k23_e {P : Program} {Q : VEx → Env → List Ob → Prop} {e : Env} {H : List Ob} : vwp P c_ref11_Texts_k23 Q e H = vwp P (.seq (.ops [⟨some 17, .p (.mov (.c (.string (str [])))), none⟩] [3, 4, 12, 13, 14, 15, 16, 17])
  c_ref11_Texts_k22) Q e H := by_refl rfl
theorem u_ref11_Texts_k24_e {P : Program} {Q : VEx → Env → List Ob → Prop} {e : Env} {H : List Ob} : vwp P c_ref11_Texts_k24 Q e H = vwp P (.seq (.ops [⟨some 34, .p (.mov (.t 0)), none⟩,
    ⟨some 35, .p (.mov (.t 2)), none⟩,
    ⟨some 36, .s (.call 43 [.t 34, .t 35]), none⟩,
    ⟨some 33, .p (.mov (.t 36)), none⟩,
    ⟨some 37, .p (.ext 0 (.t 33)), none⟩,
    ⟨some 38, .p (.ext 1 (.t 33)), none⟩,
    ⟨some 15, .p (.mov (.t 37)), none⟩,
    ⟨some 16, .p (.mov (.t 38)), none⟩] [3, 4, 12, 13, 14, 15, 16])
  c_ref11_Texts_k23) Q e H := by_refl rfl
theorem u_ref11_Texts_k25_e {P : Program} {Q : VEx → Env → List Ob → Prop} {e : Env} {H : List Ob} : vwp P c_ref11_Texts_k25 Q e H = vwp P (.seq (.ops [⟨some 28, .p (.mov (.t 0)), none⟩,
    ⟨some 29, .p (.mov (.t 1)), none⟩,
    ⟨some 30, .s (.call 43 [.t 28, .t 29]), none⟩,
    ⟨some 27, .p (.mov (.t 30)), none⟩,
    ⟨some 31, .p (.ext 0 (.t 27)), none⟩,
    ⟨some 32, .p (.ext 1 (.t 27)), none⟩,
    ⟨some 13, .p (.mov (.t 31)), none⟩,
    ⟨some 14, .p (.mov (.t 32)), none⟩] [0, 2, 3, 4, 12, 13, 14])
  c_ref11_Texts_k24) Q e H := by_refl rfl
theorem u_ref11_Texts_k26_e {P : Program} {Q : VEx → Env → List Ob → Prop} {e : Env} {H : List Ob} : vwp P c_ref11_Texts_k26 Q e H = vwp P (.seq (.ops [⟨some 25, .p (.mov (.t 0)), none⟩,
    ⟨some 26, .s (.call 25 [.t 25]), none⟩,
    ⟨some 12, .p (.mov (.t 26)), none⟩] [0, 1, 2, 3, 4, 12])
  c_ref11_Texts_k25) Q e H := by_refl rfl
theorem u_ref11_Texts_e {P : Program} {Q : VEx → Env → List Ob → Prop} {e : Env} {H : List Ob} : vwp P c_ref11_Texts Q e H = vwp P (.seq (.ops [⟨some 10, .p (.mov (.c (.slice none 0 0))), none⟩,
    ⟨some 11, .p (.mov (.c (.int .i64 ((0 : Nat) : Int)))), none⟩] [0, 1, 2, 3, 4])
  c_ref11_Texts_k26) Q e H := by_refl rfl
theorem u_ref11_Texts_r {K : TV → Prop} {e : Env} {H : List Ob} : res r_ref11_Texts e H K = res [.tmp 10, .tmp 11] e H K := by_refl rfl
def u_ref11_Texts := (And.intro (And.intro (And.intro (And.intro (And.intro @u_ref11_Texts_b1_e @u_ref11_Texts_b2_e) (And.intro @u_ref11_Texts_k3_e @u_ref11_Texts_b4_e)) (And.intro (And.intro @u_ref11_Texts_k5_e @u_ref11_Texts_b6_e) (And.intro @u_ref11_Texts_k7_e @u_ref11_Texts_k8_e))) (And.intro (And.intro (And.intro @u_ref11_Texts_k9_e @u_ref11_Texts_k10_e) (And.intro @u_ref11_Texts_k11_e @u_ref11_Texts_k12_e)) (And.intro (And.intro @u_ref11_Texts_k13_e @u_ref11_Texts_k14_e) (And.intro @u_ref11_Texts_L15_e @u_ref11_Texts_k16_e)))) (And.intro (And.intro (And.intro (And.intro @u_ref11_Texts_k17_e @u_ref11_Texts_k18_e) (And.intro @u_ref11_Texts_k19_e @u_ref11_Texts_k20_e)) (And.intro (And.intro @u_ref11_Texts_k21_e @u_ref11_Texts_k22_e) (And.intro @u_ref11_Texts_k23_e @u_ref11_Texts_k24_e))) (And.intro (And.intro @u_ref11_Texts_k25_e @u_ref11_Texts_k26_e) (And.intro @u_ref11_Texts_e @u_ref11_Texts_r))))
theorem go_ref11_Texts {args : List TV} {H : List Ob} {R : TV → List Ob → Prop} (hn : args.length ≤ 129) (h : vwp Try.prog c_ref11_Texts (atEnd r_ref11_Texts R) (argsE 0 args) H) : VCalls Try.prog 29 args H R := vcalls_of Try.func29 t_ref11_Texts w_ref11_Texts hn h

/-! gitlike/gitlikeref11.piece -/
def c_ref11_piece_b1 : VCode := .seq (.ops [⟨some 23, .p (.mov (.t 2)), none⟩,
    ⟨some 24, .p (.mov (.t 0)), none⟩,
    ⟨some 25, .p (.bin 9 .eql (.t 23) (.t 24)), none⟩,
    ⟨some 22, .p (.mov (.t 25)), none⟩] [1, 2, 3, 4, 22])
  (.cond (.t 22)
  (.seq (.ops [⟨some 26, .p (.mov (.t 1)), none⟩,
      ⟨some 10, .p (.mov (.t 26)), none⟩,
      ⟨some 11, .p (.mov (.c (.int .i64 ((0 : Nat) : Int)))), none⟩] [10, 11])
    (.ret))
  (.skip))
def c_ref11_piece_b2 : VCode := .seq (.ops [⟨some 18, .p (.mov (.t 1)), none⟩,
    ⟨some 19, .p (.mov (.t 0)), none⟩,
    ⟨some 20, .p (.bin 9 .eql (.t 18) (.t 19)), none⟩,
    ⟨some 17, .p (.mov (.t 20)), none⟩] [0, 1, 2, 3, 4, 17])
  (.cond (.t 17)
  (.seq (.ops [⟨some 21, .p (.mov (.t 2)), none⟩,
      ⟨some 10, .p (.mov (.t 21)), none⟩,
      ⟨some 11, .p (.mov (.c (.int .i64 ((0 : Nat) : Int)))), none⟩] [10, 11])
    (.ret))
  c_ref11_piece_b1)
def c_ref11_piece_k3 : VCode := .cond (.t 12)
  (.seq (.ops [⟨some 16, .p (.mov (.t 1)), none⟩,
      ⟨some 10, .p (.mov (.t 16)), none⟩,
      ⟨some 11, .p (.mov (.c (.int .i64 ((0 : Nat) : Int)))), none⟩] [10, 11])
    (.ret))
  c_ref11_piece_b2
def c_ref11_piece_k4 : VCode := .seq (.ops [⟨some 27, .p (.mov (.t 3)), none⟩,
    ⟨some 28, .p (.bin 9 .add (.c (.string (str [60, 60, 60, 60, 60, 60, 60, 32]))) (.t 27)), none⟩,
    ⟨some 29, .p (.bin 9 .add (.t 28) (.c (.string (str [10])))), none⟩,
    ⟨some 30, .p (.mov (.t 1)), none⟩,
    ⟨some 31, .s (.call 54 [.t 30]), none⟩,
    ⟨some 32, .p (.bin 9 .add (.t 29) (.t 31)), none⟩,
    ⟨some 33, .p (.bin 9 .add (.t 32) (.c (.string (str [61, 61, 61, 61, 61, 61, 61, 10])))), none⟩,
    ⟨some 34, .p (.mov (.t 2)), none⟩,
    ⟨some 35, .s (.call 54 [.t 34]), none⟩,
    ⟨some 36, .p (.bin 9 .add (.t 33) (.t 35)), none⟩,
    ⟨some 37, .p (.bin 9 .add (.t 36) (.c (.string (str [62, 62, 62, 62, 62, 62, 62, 32])))), none⟩,
    ⟨some 38, .p (.mov (.t 4)), none⟩,
    ⟨some 39, .p (.bin 9 .add (.t 37) (.t 38)), none⟩,
    ⟨some 40, .p (.bin 9 .add (.t 39) (.c (.string (str [10])))), none⟩,
    ⟨some 10, .p (.mov (.t 40)), none⟩,
    ⟨some 11, .p (.mov (.c (.int .i64 ((1 : Nat) : Int)))), none⟩] [10, 11])
  (.ret)
def c_ref11_piece_k5 : VCode := .seq (.block 0 (.seq (.ops [⟨some 13, .p (.mov (.t 1)), none⟩,
    ⟨some 14, .p (.mov (.t 2)), none⟩,
    ⟨some 15, .p (.bin 9 .eql (.t 13) (.t 14)), none⟩,
    ⟨some 12, .p (.mov (.t 15)), none⟩] [0, 1, 2, 3, 4, 12])
  c_ref11_piece_k3))
  c_ref11_piece_k4
def c_ref11_piece : VCode := .seq (.ops [⟨some 10, .p (.mov (.c (.string (str [])))), none⟩,
    ⟨some 11, .p (.mov (.c (.int .i64 ((0 : Nat) : Int)))), none⟩] [0, 1, 2, 3, 4])
  c_ref11_piece_k5
def r_ref11_piece : List VR := [.tmp 10, .tmp 11]
theorem t_ref11_piece : Try.f44.body.bind (trC Try.prog Try.f44.ntmps) = some (er c_ref11_piece) := by kernel_rfl
theorem w_ref11_piece : trR Try.prog Try.f44.results.toList = some r_ref11_piece := by kernel_rfl
theorem u_ref11_piece_b1_e {P : Program} {Q : VEx → Env → List Ob → Prop} {e : Env} {H : List Ob} : vwp P c_ref11_piece_b1 Q e H = vwp P (.seq (.ops [⟨some 23, .p (.mov (.t 2)), none⟩,
    ⟨some 24, .p (.mov (.t 0)), none⟩,
    ⟨some 25, .p (.bin 9 .eql (.t 23) (.t 24)), none⟩,
    ⟨some 22, .p (.mov (.t 25)), none⟩] [1, 2, 3, 4, 22])
  (.cond (.t 22)
  (.seq (.ops [⟨some 26, .p (.mov (.t 1)), none⟩,
      ⟨some 10, .p (.mov (.t 26)), none⟩,
      ⟨some 11, .p (.mov (.c (.int .i64 ((0 : Nat) : Int)))), none⟩] [10, 11])
    (.ret))
  (.skip))) Q e H := by_refl rfl
theorem u_ref11_piece_b2_e {P : Program} {Q : VEx → Env → List Ob → Prop} {e : Env} {H : List Ob} : vwp P c_ref11_piece_b2 Q e H = vwp P (.seq (.ops [⟨some 18, .p (.mov (.t 1)), none⟩,
    ⟨some 19, .p (.mov (.t 0)), none⟩,
    ⟨some 20, .p (.bin 9 .eql (.t 18) (.t 19)), none⟩,
    ⟨some 17, .p (.mov (.t 20)), none⟩] [0, 1, 2, 3, 4, 17])
  (.cond (.t 17)
  (.seq (.ops [⟨some 21, .p (.mov (.t 2)), none⟩,
      ⟨some 10, .p (.mov (.t 21)), none⟩,
      ⟨some 11, .p (.mov (.c (.int .i64 ((0 : Nat) : Int)))), none⟩] [10, 11])
    (.ret))
  c_ref11_piece_b1)) Q e H := by_refl rfl
theorem u_ref11_piece_k3_e {P : Program} {Q : VEx → Env → List Ob → Prop} {e : Env} {H : List Ob} : vwp P c_ref11_piece_k3 Q e H = vwp P (.cond (.t 12)
  (.seq (.ops [⟨some 16, .p (.mov (.t 1)), none⟩,
      ⟨some 10, .p (.mov (.t 16)), none⟩,
      ⟨some 11, .p (.mov (.c (.int .i64 ((0 : Nat) : Int)))), none⟩] [10, 11])
    (.ret))
  c_ref11_piece_b2) Q e H := by_refl rfl
theorem u_ref11_piece_k4_e {P : Program} {Q : VEx → Env → List Ob → Prop} {e : Env} {H : List Ob} : vwp P c_ref11_piece_k4 Q e H = vwp P (.seq (.ops [⟨some 27, .p (.mov (.t 3)), none⟩,
    ⟨some 28, .p (.bin 9 .add (.c (.string (str [60, 60, 60, 60, 60, 60, 60, 32]))) (.t 27)), none⟩,
    ⟨some 29, .p (.bin 9 .add (.t 28) (.c (.string (str [10])))), none⟩,
    ⟨some 30, .p (.mov (.t 1)), none⟩,
    ⟨some 31, .s (.call 54 [.t 30]), none⟩,
    ⟨some 32, .p (.bin 9 .add (.t 29) (.t 31)), none⟩,
    ⟨some 33, .p (.bin 9 .add (.t 32) (.c (.string (str [61, 61, 61, 61, 61, 61, 61, 10])))), none⟩,
    ⟨some 34, .p (.mov (.t 2)), none⟩,
    ⟨some 35, .s (.call 54 [.t 34]), none⟩,
    ⟨some 36, .p (.bin 9 .add (.t 33) (.t 35)), none⟩,
    ⟨some 37, .p (.bin 9 .add (.t 36) (.c (.string (str [62, 62, 62, 62, 62, 62, 62, 32])))), none⟩,
    ⟨some 38, .p (.mov (.t 4)), none⟩,
    ⟨some 39, .p (.bin 9 .add (.t 37) (.t 38)), none⟩,
    ⟨some 40, .p (.bin 9 .add (.t 39) (.c (.string (str [10])))), none⟩,
    ⟨some 10, .p (.mov (.t 40)), none⟩,
    ⟨some 11, .p (.mov (.c (.int .i64 ((1 : Nat) : Int)))), none⟩] [10, 11])
  (.ret)) Q e H := by_refl rfl
theorem u_ref11_piece_k5_e {P : Program} {Q : VEx → Env → List Ob → Prop} {e : Env} {H : List Ob} : vwp P c_ref11_piece_k5 Q e H = vwp P (.seq (.block 0 (.seq (.ops [⟨some 13, .p (.mov (.t 1)), none⟩,
    ⟨some 14, .p (.mov (.t 2)), none⟩,
    ⟨some 15, .p (.bin 9 .eql (.t 13) (.t 14)), none⟩,
    ⟨some 12, .p (.mov (.t 15)), none⟩] [0, 1, 2, 3, 4, 12])
  c_ref11_piece_k3))
  c_ref11_piece_k4) Q e H := by_refl rfl
theorem u_ref11_piece_e {P : Program} {Q : VEx → Env → List Ob → Prop} {e : Env} {H : List Ob} : vwp P c_ref11_piece Q e H = vwp P (.seq (.ops [⟨some 10, .p (.mov (.c (.string (str [])))), none⟩,
    ⟨some 11, .p (.mov (.c (.int .i64 ((0 : Nat) : Int)))), none⟩] [0, 1, 2, 3, 4])
  c_ref11_piece_k5) Q e H := by_refl rfl
theorem u_ref11_piece_r {K : TV → Prop} {e : Env} {H : List Ob} : res r_ref11_piece e H K = res [.tmp 10, .tmp 11] e H K := by_refl rfl
def u_ref11_piece := (And.intro (And.intro (And.intro @u_ref11_piece_b1_e @u_ref11_piece_b2_e) (And.intro @u_ref11_piece_k3_e @u_ref11_piece_k4_e)) (And.intro (And.intro @u_ref11_piece_k5_e @u_ref11_piece_e) @u_ref11_piece_r))
theorem go_ref11_piece {args : List TV} {H : List Ob} {R : TV → List Ob → Prop} (hn : args.length ≤ 41) (h : vwp Try.prog c_ref11_piece (atEnd r_ref11_piece R) (argsE 0 args) H) : VCalls Try.prog 44 args H R := vcalls_of Try.func44 t_ref11_piece w_ref11_piece hn h

/-! gitlike/gitlikeref11.ended -/
def c_ref11_ended_k1 : VCode := .seq (.seq (.ops [⟨some 3, .p (.mov (.t 0)), none⟩,
    ⟨some 4, .p (.lenS (.t 3)), none⟩,
    ⟨some 5, .p (.bin 3 .gtr (.t 4) (.c (.int .i64 ((0 : Nat) : Int)))), none⟩,
    ⟨some 6, .p (.mov (.t 5)), none⟩,
    ⟨some 7, .p (.mov (.t 0)), some ⟨6, true⟩⟩,
    ⟨some 8, .p (.mov (.t 0)), some ⟨6, true⟩⟩,
    ⟨some 9, .p (.lenS (.t 8)), some ⟨6, true⟩⟩,
    ⟨some 10, .p (.bin 3 .sub (.t 9) (.c (.int .i64 ((1 : Nat) : Int)))), some ⟨6, true⟩⟩,
    ⟨some 11, .p (.idxS (.t 7) (.t 10)), some ⟨6, true⟩⟩,
    ⟨some 12, .p (.bin 5 .neq (.t 11) (.c (.int .u8 ((10 : Nat) : Int)))), some ⟨6, true⟩⟩,
    ⟨some 13, .p (.pick (.t 6) (.t 12) (.c (.bool false))), none⟩] [0, 13])
  (.cond (.t 13)
  (.seq (.ops [⟨some 14, .p (.mov (.t 0)), none⟩,
      ⟨some 15, .p (.bin 9 .add (.t 14) (.c (.string (str [10])))), none⟩,
      ⟨some 2, .p (.mov (.t 15)), none⟩] [2])
    (.ret))
  (.skip)))
  (.seq (.ops [⟨some 16, .p (.mov (.t 0)), none⟩,
    ⟨some 2, .p (.mov (.t 16)), none⟩] [2])
  (.ret))
def c_ref11_ended : VCode := .seq (.ops [⟨some 2, .p (.mov (.c (.string (str [])))), none⟩] [0])
  c_ref11_ended_k1
def r_ref11_ended : List VR := [.tmp 2]
theorem t_ref11_ended : Try.f54.body.bind (trC Try.prog Try.f54.ntmps) = some (er c_ref11_ended) := by kernel_rfl
theorem w_ref11_ended : trR Try.prog Try.f54.results.toList = some r_ref11_ended := by kernel_rfl
theorem u_ref11_ended_k1_e {P : Program} {Q : VEx → Env → List Ob → Prop} {e : Env} {H : List Ob} : vwp P c_ref11_ended_k1 Q e H = vwp P (.seq (.seq (.ops [⟨some 3, .p (.mov (.t 0)), none⟩,
    ⟨some 4, .p (.lenS (.t 3)), none⟩,
    ⟨some 5, .p (.bin 3 .gtr (.t 4) (.c (.int .i64 ((0 : Nat) : Int)))), none⟩,
    ⟨some 6, .p (.mov (.t 5)), none⟩,
    ⟨some 7, .p (.mov (.t 0)), some ⟨6, true⟩⟩,
    ⟨some 8, .p (.mov (.t 0)), some ⟨6, true⟩⟩,
    ⟨some 9, .p (.lenS (.t 8)), some ⟨6, true⟩⟩,
    ⟨some 10, .p (.bin 3 .sub (.t 9) (.c (.int .i64 ((1 : Nat) : Int)))), some ⟨6, true⟩⟩,
    ⟨some 11, .p (.idxS (.t 7) (.t 10)), some ⟨6, true⟩⟩,
    ⟨some 12, .p (.bin 5 .neq (.t 11) (.c (.int .u8 ((10 : Nat) : Int)))), some ⟨6, true⟩⟩,
    ⟨some 13, .p (.pick (.t 6) (.t 12) (.c (.bool false))), none⟩] [0, 13])
  (.cond (.t 13)
  (.seq (.ops [⟨some 14, .p (.mov (.t 0)), none⟩,
      ⟨some 15, .p (.bin 9 .add (.t 14) (.c (.string (str [10])))), none⟩,
      ⟨some 2, .p (.mov (.t 15)), none⟩] [2])
    (.ret))
  (.skip)))
  (.seq (.ops [⟨some 16, .p (.mov (.t 0)), none⟩,
    ⟨some 2, .p (.mov (.t 16)), none⟩] [2])
  (.ret))) Q e H := by_refl rfl
theorem u_ref11_ended_e {P : Program} {Q : VEx → Env → List Ob → Prop} {e : Env} {H : List Ob} : vwp P c_ref11_ended Q e H = vwp P (.seq (.ops [⟨some 2, .p (.mov (.c (.string (str [])))), none⟩] [0])
  c_ref11_ended_k1) Q e H := by_refl rfl
theorem u_ref11_ended_r {K : TV → Prop} {e : Env} {H : List Ob} : res r_ref11_ended e H K = res [.tmp 2] e H K := by_refl rfl
def u_ref11_ended := (And.intro (And.intro @u_ref11_ended_k1_e @u_ref11_ended_e) @u_ref11_ended_r)
theorem go_ref11_ended {args : List TV} {H : List Ob} {R : TV → List Ob → Prop} (hn : args.length ≤ 17) (h : vwp Try.prog c_ref11_ended (atEnd r_ref11_ended R) (argsE 0 args) H) : VCalls Try.prog 54 args H R := vcalls_of Try.func54 t_ref11_ended w_ref11_ended hn h

/-! gitlike/gitlikelaw11.MergeTexts -/
def c_law11_MergeTexts_k1 : VCode := .seq (.ops [⟨some 79, .p (.mov (.t 16)), none⟩,
    ⟨some 80, .p (.mov (.t 79)), none⟩,
    ⟨some 81, .p (.mov (.t 17)), some ⟨80, true⟩⟩,
    ⟨some 82, .p (.pick (.t 80) (.t 81) (.c (.bool false))), none⟩,
    ⟨some 83, .p (.mov (.t 82)), none⟩,
    ⟨some 84, .p (.mov (.t 18)), some ⟨83, true⟩⟩,
    ⟨some 85, .p (.pick (.t 83) (.t 84) (.c (.bool false))), none⟩,
    ⟨some 86, .p (.mov (.t 85)), none⟩,
    ⟨some 87, .p (.mov (.t 21)), some ⟨86, true⟩⟩,
    ⟨some 88, .p (.pick (.t 86) (.t 87) (.c (.bool false))), none⟩,
    ⟨some 89, .p (.mov (.t 88)), none⟩,
    ⟨some 90, .p (.mov (.t 15)), some ⟨89, true⟩⟩,
    ⟨some 91, .p (.mov (.t 20)), some ⟨89, true⟩⟩,
    ⟨some 92, .p (.bin 3 .eql (.t 90) (.t 91)), some ⟨89, true⟩⟩,
    ⟨some 93, .p (.pick (.t 89) (.t 92) (.c (.bool false))), none⟩,
    ⟨some 10, .p (.mov (.t 93)), none⟩] [10])
  (.ret)
def c_law11_MergeTexts_k2 : VCode := .seq (.ops [⟨some 76, .p (.mov (.t 14)), none⟩,
    ⟨some 77, .p (.mov (.t 19)), none⟩,
    ⟨some 78, .s (.call 30 [.t 76, .t 77]), none⟩,
    ⟨some 21, .p (.mov (.t 78)), none⟩] [15, 16, 17, 18, 20, 21])
  c_law11_MergeTexts_k1
def c_law11_MergeTexts_k3 : VCode := .seq (.ops [⟨some 68, .p (.mov (.t 0)), none⟩,
    ⟨some 69, .p (.mov (.t 1)), none⟩,
    ⟨some 70, .p (.mov (.t 2)), none⟩,
    ⟨some 71, .p (.mov (.t 3)), none⟩,
    ⟨some 72, .p (.mov (.t 4)), none⟩,
    ⟨some 73, .s (.call 29 [.t 68, .t 69, .t 70, .t 71, .t 72]), none⟩,
    ⟨some 67, .p (.mov (.t 73)), none⟩,
    ⟨some 74, .p (.ext 0 (.t 67)), none⟩,
    ⟨some 75, .p (.ext 1 (.t 67)), none⟩,
    ⟨some 19, .p (.mov (.t 74)), none⟩,
    ⟨some 20, .p (.mov (.t 75)), none⟩] [14, 15, 16, 17, 18, 19, 20])
  c_law11_MergeTexts_k2
def c_law11_MergeTexts_k4 : VCode := .seq (.ops [⟨some 64, .p (.mov (.t 13)), none⟩,
    ⟨some 65, .p (.mov (.t 2)), none⟩,
    ⟨some 66, .s (.call 13 [.t 64, .t 65]), none⟩,
    ⟨some 18, .p (.mov (.t 66)), none⟩] [0, 1, 2, 3, 4, 14, 15, 16, 17, 18])
  c_law11_MergeTexts_k3
def c_law11_MergeTexts_k5 : VCode := .seq (.ops [⟨some 61, .p (.mov (.t 12)), none⟩,
    ⟨some 62, .p (.mov (.t 1)), none⟩,
    ⟨some 63, .s (.call 13 [.t 61, .t 62]), none⟩,
    ⟨some 17, .p (.mov (.t 63)), none⟩] [0, 1, 2, 3, 4, 13, 14, 15, 16, 17])
  c_law11_MergeTexts_k4
def c_law11_MergeTexts_k6 : VCode := .seq (.ops [⟨some 58, .p (.mov (.t 11)), none⟩,
    ⟨some 59, .p (.mov (.t 0)), none⟩,
    ⟨some 60, .s (.call 13 [.t 58, .t 59]), none⟩,
    ⟨some 16, .p (.mov (.t 60)), none⟩] [0, 1, 2, 3, 4, 12, 13, 14, 15, 16])
  c_law11_MergeTexts_k5
def c_law11_MergeTexts_k7 : VCode := .seq (.ops [⟨some 50, .p (.mov (.t 11)), none⟩,
    ⟨some 51, .p (.mov (.t 12)), none⟩,
    ⟨some 52, .p (.mov (.t 13)), none⟩,
    ⟨some 53, .p (.mov (.t 3)), none⟩,
    ⟨some 54, .p (.mov (.t 4)), none⟩,
    ⟨some 55, .s (.call 28 [.t 50, .t 51, .t 52, .t 53, .t 54]), none⟩,
    ⟨some 49, .p (.mov (.t 55)), none⟩,
    ⟨some 56, .p (.ext 0 (.t 49)), none⟩,
    ⟨some 57, .p (.ext 1 (.t 49)), none⟩,
    ⟨some 14, .p (.mov (.t 56)), none⟩,
    ⟨some 15, .p (.mov (.t 57)), none⟩] [0, 1, 2, 3, 4, 11, 12, 13, 14, 15])
  c_law11_MergeTexts_k6
def c_law11_MergeTexts_k8 : VCode := .seq (.ops [⟨some 47, .p (.mov (.t 2)), none⟩,
    ⟨some 48, .s (.call 10 [.t 47]), none⟩,
    ⟨some 13, .p (.mov (.t 48)), none⟩] [0, 1, 2, 3, 4, 11, 12, 13])
  c_law11_MergeTexts_k7
def c_law11_MergeTexts_k9 : VCode := .seq (.ops [⟨some 45, .p (.mov (.t 1)), none⟩,
    ⟨some 46, .s (.call 10 [.t 45]), none⟩,
    ⟨some 12, .p (.mov (.t 46)), none⟩] [0, 1, 2, 3, 4, 11, 12])
  c_law11_MergeTexts_k8
def c_law11_MergeTexts_k10 : VCode := .seq (.ops [⟨some 43, .p (.mov (.t 0)), none⟩,
    ⟨some 44, .s (.call 10 [.t 43]), none⟩,
    ⟨some 11, .p (.mov (.t 44)), none⟩] [0, 1, 2, 3, 4, 11])
  c_law11_MergeTexts_k9
def c_law11_MergeTexts_k11 : VCode := .seq (.seq (.ops [⟨some 22, .p (.mov (.t 0)), none⟩,
    ⟨some 23, .p (.lenV (.t 22)), none⟩,
    ⟨some 24, .p (.bin 3 .gtr (.t 23) (.c (.int .i64 ((3000 : Nat) : Int)))), none⟩,
    ⟨some 25, .p (.mov (.t 24)), none⟩,
    ⟨some 26, .p (.mov (.t 1)), some ⟨25, false⟩⟩,
    ⟨some 27, .p (.lenV (.t 26)), some ⟨25, false⟩⟩,
    ⟨some 28, .p (.bin 3 .gtr (.t 27) (.c (.int .i64 ((3000 : Nat) : Int)))), some ⟨25, false⟩⟩,
    ⟨some 29, .p (.pick (.t 25) (.c (.bool true)) (.t 28)), none⟩,
    ⟨some 30, .p (.mov (.t 29)), none⟩,
    ⟨some 31, .p (.mov (.t 2)), some ⟨30, false⟩⟩,
    ⟨some 32, .p (.lenV (.t 31)), some ⟨30, false⟩⟩,
    ⟨some 33, .p (.bin 3 .gtr (.t 32) (.c (.int .i64 ((3000 : Nat) : Int)))), some ⟨30, false⟩⟩,
    ⟨some 34, .p (.pick (.t 30) (.c (.bool true)) (.t 33)), none⟩,
    ⟨some 35, .p (.mov (.t 34)), none⟩,
    ⟨some 36, .p (.mov (.t 3)), some ⟨35, false⟩⟩,
    ⟨some 37, .p (.lenS (.t 36)), some ⟨35, false⟩⟩,
    ⟨some 38, .p (.mov (.t 4)), some ⟨35, false⟩⟩,
    ⟨some 39, .p (.lenS (.t 38)), some ⟨35, false⟩⟩,
    ⟨some 40, .p (.bin 3 .add (.t 37) (.t 39)), some ⟨35, false⟩⟩,
    ⟨some 41, .p (.bin 3 .gtr (.t 40) (.c (.int .i64 ((3000 : Nat) : Int)))), some ⟨35, false⟩⟩,
    ⟨some 42, .p (.pick (.t 35) (.c (.bool true)) (.t 41)), none⟩] [0, 1, 2, 3, 4, 42])
  (.cond (.t 42)
  (.seq (.ops [⟨some 10, .p (.mov (.c (.bool true))), none⟩] [10])
    (.ret))
  (.skip)))
  c_law11_MergeTexts_k10
def c_law11_MergeTexts : VCode := .seq (.ops [⟨some 10, .p (.mov (.c (.bool false))), none⟩] [0, 1, 2, 3, 4])
  c_law11_MergeTexts_k11
def r_law11_MergeTexts : List VR := [.tmp 10]
theorem t_law11_MergeTexts : Try.f8.body.bind (trC Try.prog Try.f8.ntmps) = some (er c_law11_MergeTexts) := by kernel_rfl
theorem w_law11_MergeTexts : trR Try.prog Try.f8.results.toList = some r_law11_MergeTexts := by kernel_rfl
theorem u_law11_MergeTexts_k1_e {P : Program} {Q : VEx → Env → List Ob → Prop} {e : Env} {H : List Ob} : vwp P c_law11_MergeTexts_k1 Q e H = vwp P (.seq (.ops [⟨some 79, .p (.mov (.t 16)), none⟩,
    ⟨some 80, .p (.mov (.t 79)), none⟩,
    ⟨some 81, .p (.mov (.t 17)), some ⟨80, true⟩⟩,
    ⟨some 82, .p (.pick (.t 80) (.t 81) (.c (.bool false))), none⟩,
    ⟨some 83, .p (.mov (.t 82)), none⟩,
    ⟨some 84, .p (.mov (.t 18)), some ⟨83, true⟩⟩,
    ⟨some 85, .p (.pick (.t 83) (.t 84) (.c (.bool false))), none⟩,
    ⟨some 86, .p (.mov (.t 85)), none⟩,
    ⟨some 87, .p (.mov (.t 21)), some ⟨86, true⟩⟩,
    ⟨some 88, .p (.pick (.t 86) (.t 87) (.c (.bool false))), none⟩,
    ⟨some 89, .p (.mov (.t 88)), none⟩,
    ⟨some 90, .p (.mov (.t 15)), some ⟨89, true⟩⟩,
    ⟨some 91, .p (.mov (.t 20)), some ⟨89, true⟩⟩,
    ⟨some 92, .p (.bin 3 .eql (.t 90) (.t 91)), some ⟨89, true⟩⟩,
    ⟨some 93, .p (.pick (.t 89) (.t 92) (.c (.bool false))), none⟩,
    ⟨some 10, .p (.mov (.t 93)), none⟩] [10])
  (.ret)) Q e H := by_refl rfl
theorem u_law11_MergeTexts_k2_e {P : Program} {Q : VEx → Env → List Ob → Prop} {e : Env} {H : List Ob} : vwp P c_law11_MergeTexts_k2 Q e H = vwp P (.seq (.ops [⟨some 76, .p (.mov (.t 14)), none⟩,
    ⟨some 77, .p (.mov (.t 19)), none⟩,
    ⟨some 78, .s (.call 30 [.t 76, .t 77]), none⟩,
    ⟨some 21, .p (.mov (.t 78)), none⟩] [15, 16, 17, 18, 20, 21])
  c_law11_MergeTexts_k1) Q e H := by_refl rfl
theorem u_law11_MergeTexts_k3_e {P : Program} {Q : VEx → Env → List Ob → Prop} {e : Env} {H : List Ob} : vwp P c_law11_MergeTexts_k3 Q e H = vwp P (.seq (.ops [⟨some 68, .p (.mov (.t 0)), none⟩,
    ⟨some 69, .p (.mov (.t 1)), none⟩,
    ⟨some 70, .p (.mov (.t 2)), none⟩,
    ⟨some 71, .p (.mov (.t 3)), none⟩,
    ⟨some 72, .p (.mov (.t 4)), none⟩,
    ⟨some 73, .s (.call 29 [.t 68, .t 69, .t 70, .t 71, .t 72]), none⟩,
    ⟨some 67, .p (.mov (.t 73)), none⟩,
    ⟨some 74, .p (.ext 0 (.t 67)), none⟩,
    ⟨some 75, .p (.ext 1 (.t 67)), none⟩,
    ⟨some 19, .p (.mov (.t 74)), none⟩,
    ⟨some 20, .p (.mov (.t 75)), none⟩] [14, 15, 16, 17, 18, 19, 20])
  c_law11_MergeTexts_k2) Q e H := by_refl rfl
theorem u_law11_MergeTexts_k4_e {P : Program} {Q : VEx → Env → List Ob → Prop} {e : Env} {H : List Ob} : vwp P c_law11_MergeTexts_k4 Q e H = vwp P (.seq (.ops [⟨some 64, .p (.mov (.t 13)), none⟩,
    ⟨some 65, .p (.mov (.t 2)), none⟩,
    ⟨some 66, .s (.call 13 [.t 64, .t 65]), none⟩,
    ⟨some 18, .p (.mov (.t 66)), none⟩] [0, 1, 2, 3, 4, 14, 15, 16, 17, 18])
  c_law11_MergeTexts_k3) Q e H := by_refl rfl
theorem u_law11_MergeTexts_k5_e {P : Program} {Q : VEx → Env → List Ob → Prop} {e : Env} {H : List Ob} : vwp P c_law11_MergeTexts_k5 Q e H = vwp P (.seq (.ops [⟨some 61, .p (.mov (.t 12)), none⟩,
    ⟨some 62, .p (.mov (.t 1)), none⟩,
    ⟨some 63, .s (.call 13 [.t 61, .t 62]), none⟩,
    ⟨some 17, .p (.mov (.t 63)), none⟩] [0, 1, 2, 3, 4, 13, 14, 15, 16, 17])
  c_law11_MergeTexts_k4) Q e H := by_refl rfl
theorem u_law11_MergeTexts_k6_e {P : Program} {Q : VEx → Env → List Ob → Prop} {e : Env} {H : List Ob} : vwp P c_law11_MergeTexts_k6 Q e H = vwp P (.seq (.ops [⟨some 58, .p (.mov (.t 11)), none⟩,
    ⟨some 59, .p (.mov (.t 0)), none⟩,
    ⟨some 60, .s (.call 13 [.t 58, .t 59]), none⟩,
    ⟨some 16, .p (.mov (.t 60)), none⟩] [0, 1, 2, 3, 4, 12, 13, 14, 15, 16])
  c_law11_MergeTexts_k5) Q e H := by_refl rfl
theorem u_law11_MergeTexts_k7_e {P : Program} {Q : VEx → Env → List Ob → Prop} {e : Env} {H : List Ob} : vwp P c_law11_MergeTexts_k7 Q e H = vwp P (.seq (.ops [⟨some 50, .p (.mov (.t 11)), none⟩,
    ⟨some 51, .p (.mov (.t 12)), none⟩,
    ⟨some 52, .p (.mov (.t 13)), none⟩,
    ⟨some 53, .p (.mov (.t 3)), none⟩,
    ⟨some 54, .p (.mov (.t 4)), none⟩,
    ⟨some 55, .s (.call 28 [.t 50, .t 51, .t 52, .t 53, .t 54]), none⟩,
    ⟨some 49, .p (.mov (.t 55)), none⟩,
    ⟨some 56, .p (.ext 0 (.t 49)), none⟩,
    ⟨some 57, .p (.ext 1 (.t 49)), none⟩,
    ⟨some 14, .p (.mov (.t 56)), none⟩,
    ⟨some 15, .p (.mov (.t 57)), none⟩] [0, 1, 2, 3, 4, 11, 12, 13, 14, 15])
  c_law11_MergeTexts_k6) Q e H := by_refl rfl
theorem u_law11_MergeTexts_k8_e {P : Program} {Q : VEx → Env → List Ob → Prop} {e : Env} {H : List Ob} : vwp P c_law11_MergeTexts_k8 Q e H = vwp P (.seq (.ops [⟨some 47, .p (.mov (.t 2)), none⟩,
    ⟨some 48, .s (.call 10 [.t 47]), none⟩,
    ⟨some 13, .p (.mov (.t 48)), none⟩] [0, 1, 2, 3, 4, 11, 12, 13])
  c_law11_MergeTexts_k7) Q e H := by_refl rfl
theorem u_law11_MergeTexts_k9_e {P : Program} {Q : VEx → Env → List Ob → Prop} {e : Env} {H : List Ob} : vwp P c_law11_MergeTexts_k9 Q e H = vwp P (.seq (.ops [⟨some 45, .p (.mov (.t 1)), none⟩,
    ⟨some 46, .s (.call 10 [.t 45]), none⟩,
    ⟨some 12, .p (.mov (.t 46)), none⟩] [0, 1, 2, 3, 4, 11, 12])
  c_law11_MergeTexts_k8) Q e H := by_refl rfl
theorem u_law11_MergeTexts_k10_e {P : Program} {Q : VEx → Env → List Ob → Prop} {e : Env} {H : List Ob} : vwp P c_law11_MergeTexts_k10 Q e H = vwp P (.seq (.ops [⟨some 43, .p (.mov (.t 0)), none⟩,
    ⟨some 44, .s (.call 10 [.t 43]), none⟩,
    ⟨some 11, .p (.mov (.t 44)), none⟩] [0, 1, 2, 3, 4, 11])
  c_law11_MergeTexts_k9) Q e H := by_refl rfl
theorem u_law11_MergeTexts_k11_e {P : Program} {Q : VEx → Env → List Ob → Prop} {e : Env} {H : List Ob} : vwp P c_law11_MergeTexts_k11 Q e H = vwp P (.seq (.seq (.ops [⟨some 22, .p (.mov (.t 0)), none⟩,
    ⟨some 23, .p (.lenV (.t 22)), none⟩,
    ⟨some 24, .p (.bin 3 .gtr (.t 23) (.c (.int .i64 ((3000 : Nat) : Int)))), none⟩,
    ⟨some 25, .p (.mov (.t 24)), none⟩,
    ⟨some 26, .p (.mov (.t 1)), some ⟨25, false⟩⟩,
    ⟨some 27, .p (.lenV (.t 26)), some ⟨25, false⟩⟩,
    ⟨some 28, .p (.bin 3 .gtr (.t 27) (.c (.int .i64 ((3000 : Nat) : Int)))), some ⟨25, false⟩⟩,
    ⟨some 29, .p (.pick (.t 25) (.c (.bool true)) (.t 28)), none⟩,
    ⟨some 30, .p (.mov (.t 29)), none⟩,
    ⟨some 31, .p (.mov (.t 2)), some ⟨30, false⟩⟩,
    ⟨some 32, .p (.lenV (.t 31)), some ⟨30, false⟩⟩,
    ⟨some 33, .p (.bin 3 .gtr (.t 32) (.c (.int .i64 ((3000 : Nat) : Int)))), some ⟨30, false⟩⟩,
    ⟨some 34, .p (.pick (.t 30) (.c (.bool true)) (.t 33)), none⟩,
    ⟨some 35, .p (.mov (.t 34)), none⟩,
    ⟨some 36, .p (.mov (.t 3)), some ⟨35, false⟩⟩,
    ⟨some 37, .p (.lenS (.t 36)), some ⟨35, false⟩⟩,
    ⟨some 38, .p (.mov (.t 4)), some ⟨35, false⟩⟩,
    ⟨some 39, .p (.lenS (.t 38)), some ⟨35, false⟩⟩,
    ⟨some 40, .p (.bin 3 .add (.t 37) (.t 39)), some ⟨35, false⟩⟩,
    ⟨some 41, .p (.bin 3 .gtr (.t 40) (.c (.int .i64 ((3000 : Nat) : Int)))), some ⟨35, false⟩⟩,
    ⟨some 42, .p (.pick (.t 35) (.c (.bool true)) (.t 41)), none⟩] [0, 1, 2, 3, 4, 42])
  (.cond (.t 42)
  (.seq (.ops [⟨some 10, .p (.mov (.c (.bool true))), none⟩] [10])
    (.ret))
  (.skip)))
  c_law11_MergeTexts_k10) Q e H := by_refl rfl
theorem u_law11_MergeTexts_e {P : Program} {Q : VEx → Env → List Ob → Prop} {e : Env} {H : List Ob} : vwp P c_law11_MergeTexts Q e H = vwp P (.seq (.ops [⟨some 10, .p (.mov (.c (.bool false))), none⟩] [0, 1, 2, 3, 4])
  c_law11_MergeTexts_k11) Q e H := by_refl rfl
theorem u_law11_MergeTexts_r {K : TV → Prop} {e : Env} {H : List Ob} : res r_law11_MergeTexts e H K = res [.tmp 10] e H K := by_refl rfl
def u_law11_MergeTexts := (And.intro (And.intro (And.intro (And.intro @u_law11_MergeTexts_k1_e @u_law11_MergeTexts_k2_e) (And.intro @u_law11_MergeTexts_k3_e @u_law11_MergeTexts_k4_e)) (And.intro (And.intro @u_law11_MergeTexts_k5_e @u_law11_MergeTexts_k6_e) (And.intro @u_law11_MergeTexts_k7_e @u_law11_MergeTexts_k8_e))) (And.intro (And.intro (And.intro @u_law11_MergeTexts_k9_e @u_law11_MergeTexts_k10_e) (And.intro @u_law11_MergeTexts_k11_e @u_law11_MergeTexts_e)) @u_law11_MergeTexts_r))
theorem go_law11_MergeTexts {args : List TV} {H : List Ob} {R : TV → List Ob → Prop} (hn : args.length ≤ 94) (h : vwp Try.prog c_law11_MergeTexts (atEnd r_law11_MergeTexts R) (argsE 0 args) H) : VCalls Try.prog 8 args H R := vcalls_of Try.func8 t_law11_MergeTexts w_law11_MergeTexts hn h

/-! gitlike/gitlikelaw11.MergeCommutes -/
def c_law11_MergeCommutes_k1 : VCode := .seq (.ops [⟨some 92, .p (.mov (.t 18)), none⟩,
    ⟨some 93, .p (.mov (.t 92)), none⟩,
    ⟨some 94, .p (.mov (.t 19)), some ⟨93, true⟩⟩,
    ⟨some 95, .p (.pick (.t 93) (.t 94) (.c (.bool false))), none⟩,
    ⟨some 96, .p (.mov (.t 95)), none⟩,
    ⟨some 97, .p (.mov (.t 20)), some ⟨96, true⟩⟩,
    ⟨some 98, .p (.pick (.t 96) (.t 97) (.c (.bool false))), none⟩,
    ⟨some 99, .p (.mov (.t 98)), none⟩,
    ⟨some 100, .p (.mov (.t 13)), some ⟨99, true⟩⟩,
    ⟨some 101, .p (.bin 3 .eql (.t 100) (.c (.int .i64 ((0 : Nat) : Int)))), some ⟨99, true⟩⟩,
    ⟨some 102, .p (.pick (.t 99) (.t 101) (.c (.bool false))), none⟩,
    ⟨some 103, .p (.mov (.t 102)), none⟩,
    ⟨some 104, .p (.mov (.t 15)), some ⟨103, true⟩⟩,
    ⟨some 105, .p (.bin 3 .eql (.t 104) (.c (.int .i64 ((0 : Nat) : Int)))), some ⟨103, true⟩⟩,
    ⟨some 106, .p (.pick (.t 103) (.t 105) (.c (.bool false))), none⟩,
    ⟨some 107, .p (.mov (.t 106)), none⟩,
    ⟨some 108, .p (.mov (.t 17)), some ⟨107, true⟩⟩,
    ⟨some 109, .p (.bin 3 .eql (.t 108) (.c (.int .i64 ((0 : Nat) : Int)))), some ⟨107, true⟩⟩,
    ⟨some 110, .p (.pick (.t 107) (.t 109) (.c (.bool false))), none⟩,
    ⟨some 6, .p (.mov (.t 110)), none⟩] [6])
  (.ret)
def c_law11_MergeCommutes_k2 : VCode := .seq (.ops [⟨some 89, .p (.mov (.t 16)), none⟩,
    ⟨some 90, .p (.mov (.t 1)), none⟩,
    ⟨some 91, .s (.call 30 [.t 89, .t 90]), none⟩,
    ⟨some 20, .p (.mov (.t 91)), none⟩] [13, 15, 17, 18, 19, 20])
  c_law11_MergeCommutes_k1
def c_law11_MergeCommutes_k3 : VCode := .seq (.ops [⟨some 86, .p (.mov (.t 14)), none⟩,
    ⟨some 87, .p (.mov (.t 2)), none⟩,
    ⟨some 88, .s (.call 30 [.t 86, .t 87]), none⟩,
    ⟨some 19, .p (.mov (.t 88)), none⟩] [1, 13, 15, 16, 17, 18, 19])
  c_law11_MergeCommutes_k2
def c_law11_MergeCommutes_k4 : VCode := .seq (.ops [⟨some 83, .p (.mov (.t 12)), none⟩,
    ⟨some 84, .p (.mov (.t 1)), none⟩,
    ⟨some 85, .s (.call 30 [.t 83, .t 84]), none⟩,
    ⟨some 18, .p (.mov (.t 85)), none⟩] [1, 2, 13, 14, 15, 16, 17, 18])
  c_law11_MergeCommutes_k3
def c_law11_MergeCommutes_k5 : VCode := .seq (.ops [⟨some 77, .p (.mov (.t 0)), none⟩,
    ⟨some 78, .p (.mov (.t 1)), none⟩,
    ⟨some 79, .p (.mov (.t 1)), none⟩,
    ⟨some 80, .s (.call 28 [.t 77, .t 78, .t 79, .c (.string (str [97])), .c (.string (str [98]))]), none⟩,
    ⟨some 76, .p (.mov (.t 80)), none⟩,
    ⟨some 81, .p (.ext 0 (.t 76)), none⟩,
    ⟨some 82, .p (.ext 1 (.t 76)), none⟩,
    ⟨some 16, .p (.mov (.t 81)), none⟩,
    ⟨some 17, .p (.mov (.t 82)), none⟩] [1, 2, 12, 13, 14, 15, 16, 17])
  c_law11_MergeCommutes_k4
def c_law11_MergeCommutes_k6 : VCode := .seq (.ops [⟨some 70, .p (.mov (.t 0)), none⟩,
    ⟨some 71, .p (.mov (.t 0)), none⟩,
    ⟨some 72, .p (.mov (.t 2)), none⟩,
    ⟨some 73, .s (.call 28 [.t 70, .t 71, .t 72, .c (.string (str [97])), .c (.string (str [98]))]), none⟩,
    ⟨some 69, .p (.mov (.t 73)), none⟩,
    ⟨some 74, .p (.ext 0 (.t 69)), none⟩,
    ⟨some 75, .p (.ext 1 (.t 69)), none⟩,
    ⟨some 14, .p (.mov (.t 74)), none⟩,
    ⟨some 15, .p (.mov (.t 75)), none⟩] [0, 1, 2, 12, 13, 14, 15])
  c_law11_MergeCommutes_k5
def c_law11_MergeCommutes_k7 : VCode := .seq (.ops [⟨some 63, .p (.mov (.t 0)), none⟩,
    ⟨some 64, .p (.mov (.t 1)), none⟩,
    ⟨some 65, .p (.mov (.t 0)), none⟩,
    ⟨some 66, .s (.call 28 [.t 63, .t 64, .t 65, .c (.string (str [97])), .c (.string (str [98]))]), none⟩,
    ⟨some 62, .p (.mov (.t 66)), none⟩,
    ⟨some 67, .p (.ext 0 (.t 62)), none⟩,
    ⟨some 68, .p (.ext 1 (.t 62)), none⟩,
    ⟨some 12, .p (.mov (.t 67)), none⟩,
    ⟨some 13, .p (.mov (.t 68)), none⟩] [0, 1, 2, 12, 13])
  c_law11_MergeCommutes_k6
def c_law11_MergeCommutes_k8 : VCode := .seq (.seq (.ops [⟨some 51, .p (.mov (.t 8)), none⟩,
    ⟨some 52, .p (.mov (.t 10)), none⟩,
    ⟨some 53, .p (.bin 3 .neq (.t 51) (.t 52)), none⟩,
    ⟨some 54, .p (.mov (.t 53)), none⟩,
    ⟨some 55, .p (.mov (.t 8)), some ⟨54, false⟩⟩,
    ⟨some 56, .p (.bin 3 .eql (.t 55) (.c (.int .i64 ((0 : Nat) : Int)))), some ⟨54, false⟩⟩,
    ⟨some 57, .p (.mov (.t 56)), some ⟨54, false⟩⟩,
    ⟨some 58, .p (.mov (.t 11)), some ⟨57, true⟩⟩,
    ⟨some 59, .p (.un .not (.t 58)), some ⟨57, true⟩⟩,
    ⟨some 60, .p (.pick (.t 57) (.t 59) (.c (.bool false))), some ⟨54, false⟩⟩,
    ⟨some 61, .p (.pick (.t 54) (.c (.bool true)) (.t 60)), none⟩] [0, 1, 2, 61])
  (.cond (.t 61)
  (.seq (.ops [⟨some 6, .p (.mov (.c (.bool false))), none⟩] [6])
    (.ret))
  (.skip)))
  c_law11_MergeCommutes_k7
def c_law11_MergeCommutes_k9 : VCode := .seq (.ops [⟨some 48, .p (.mov (.t 7)), none⟩,
    ⟨some 49, .p (.mov (.t 9)), none⟩,
    ⟨some 50, .s (.call 30 [.t 48, .t 49]), none⟩,
    ⟨some 11, .p (.mov (.t 50)), none⟩] [0, 1, 2, 8, 10, 11])
  c_law11_MergeCommutes_k8
def c_law11_MergeCommutes_k10 : VCode := .seq (.ops [⟨some 42, .p (.mov (.t 0)), none⟩,
    ⟨some 43, .p (.mov (.t 2)), none⟩,
    ⟨some 44, .p (.mov (.t 1)), none⟩,
    ⟨some 45, .s (.call 28 [.t 42, .t 43, .t 44, .c (.string (str [98])), .c (.string (str [97]))]), none⟩,
    ⟨some 41, .p (.mov (.t 45)), none⟩,
    ⟨some 46, .p (.ext 0 (.t 41)), none⟩,
    ⟨some 47, .p (.ext 1 (.t 41)), none⟩,
    ⟨some 9, .p (.mov (.t 46)), none⟩,
    ⟨some 10, .p (.mov (.t 47)), none⟩] [0, 1, 2, 7, 8, 9, 10])
  c_law11_MergeCommutes_k9
def c_law11_MergeCommutes_k11 : VCode := .seq (.ops [⟨some 35, .p (.mov (.t 0)), none⟩,
    ⟨some 36, .p (.mov (.t 1)), none⟩,
    ⟨some 37, .p (.mov (.t 2)), none⟩,
    ⟨some 38, .s (.call 28 [.t 35, .t 36, .t 37, .c (.string (str [97])), .c (.string (str [98]))]), none⟩,
    ⟨some 34, .p (.mov (.t 38)), none⟩,
    ⟨some 39, .p (.ext 0 (.t 34)), none⟩,
    ⟨some 40, .p (.ext 1 (.t 34)), none⟩,
    ⟨some 7, .p (.mov (.t 39)), none⟩,
    ⟨some 8, .p (.mov (.t 40)), none⟩] [0, 1, 2, 7, 8])
  c_law11_MergeCommutes_k10
def c_law11_MergeCommutes_k12 : VCode := .seq (.seq (.ops [⟨some 21, .p (.mov (.t 0)), none⟩,
    ⟨some 22, .p (.lenV (.t 21)), none⟩,
    ⟨some 23, .p (.bin 3 .gtr (.t 22) (.c (.int .i64 ((3000 : Nat) : Int)))), none⟩,
    ⟨some 24, .p (.mov (.t 23)), none⟩,
    ⟨some 25, .p (.mov (.t 1)), some ⟨24, false⟩⟩,
    ⟨some 26, .p (.lenV (.t 25)), some ⟨24, false⟩⟩,
    ⟨some 27, .p (.bin 3 .gtr (.t 26) (.c (.int .i64 ((3000 : Nat) : Int)))), some ⟨24, false⟩⟩,
    ⟨some 28, .p (.pick (.t 24) (.c (.bool true)) (.t 27)), none⟩,
    ⟨some 29, .p (.mov (.t 28)), none⟩,
    ⟨some 30, .p (.mov (.t 2)), some ⟨29, false⟩⟩,
    ⟨some 31, .p (.lenV (.t 30)), some ⟨29, false⟩⟩,
    ⟨some 32, .p (.bin 3 .gtr (.t 31) (.c (.int .i64 ((3000 : Nat) : Int)))), some ⟨29, false⟩⟩,
    ⟨some 33, .p (.pick (.t 29) (.c (.bool true)) (.t 32)), none⟩] [0, 1, 2, 33])
  (.cond (.t 33)
  (.seq (.ops [⟨some 6, .p (.mov (.c (.bool true))), none⟩] [6])
    (.ret))
  (.skip)))
  c_law11_MergeCommutes_k11
def c_law11_MergeCommutes : VCode := .seq (.ops [⟨some 6, .p (.mov (.c (.bool false))), none⟩] [0, 1, 2])
  c_law11_MergeCommutes_k12
def r_law11_MergeCommutes : List VR := [.tmp 6]
theorem t_law11_MergeCommutes : Try.f9.body.bind (trC Try.prog Try.f9.ntmps) = some (er c_law11_MergeCommutes) := by kernel_rfl
theorem w_law11_MergeCommutes : trR Try.prog Try.f9.results.toList = some r_law11_MergeCommutes := by kernel_rfl
theorem u_law11_MergeCommutes_k1_e {P : Program} {Q : VEx → Env → List Ob → Prop} {e : Env} {H : List Ob} : vwp P c_law11_MergeCommutes_k1 Q e H = vwp P (.seq (.ops [⟨some 92, .p (.mov (.t 18)), none⟩,
    ⟨some 93, .p (.mov (.t 92)), none⟩,
    ⟨some 94, .p (.mov (.t 19)), some ⟨93, true⟩⟩,
    ⟨some 95, .p (.pick (.t 93) (.t 94) (.c (.bool false))), none⟩,
    ⟨some 96, .p (.mov (.t 95)), none⟩,
    ⟨some 97, .p (.mov (.t 20)), some ⟨96, true⟩⟩,
    ⟨some 98, .p (.pick (.t 96) (.t 97) (.c (.bool false))), none⟩,
    ⟨some 99, .p (.mov (.t 98)), none⟩,
    ⟨some 100, .p (.mov (.t 13)), some ⟨99, true⟩⟩,
    ⟨some 101, .p (.bin 3 .eql (.t 100) (.c (.int .i64 ((0 : Nat) : Int)))), some ⟨99, true⟩⟩,
    ⟨some 102, .p (.pick (.t 99) (.t 101) (.c (.bool false))), none⟩,
    ⟨some 103, .p (.mov (.t 102)), none⟩,
    ⟨some 104, .p (.mov (.t 15)), some ⟨103, true⟩⟩,
    ⟨some 105, .p (.bin 3 .eql (.t 104) (.c (.int .i64 ((0 : Nat) : Int)))), some ⟨103, true⟩⟩,
    ⟨some 106, .p (.pick (.t 103) (.t 105) (.c (.bool false))), none⟩,
    ⟨some 107, .p (.mov (.t 106)), none⟩,
    ⟨some 108, .p (.mov (.t 17)), some ⟨107, true⟩⟩,
    ⟨some 109, .p (.bin 3 .eql (.t 108) (.c (.int .i64 ((0 : Nat) : Int)))), some ⟨107, true⟩⟩,
    ⟨some 110, .p (.pick (.t 107) (.t 109) (.c (.bool false))), none⟩,
    ⟨some 6, .p (.mov (.t 110)), none⟩] [6])
  (.ret)) Q e H := by_refl rfl
theorem u_law11_MergeCommutes_k2_e {P : Program} {Q : VEx → Env → List Ob → Prop} {e : Env} {H : List Ob} : vwp P c_law11_MergeCommutes_k2 Q e H = vwp P (.seq (.ops [⟨some 89, .p (.mov (.t 16)), none⟩,
    ⟨some 90, .p (.mov (.t 1)), none⟩,
    ⟨some 91, .s (.call 30 [.t 89, .t 90]), none⟩,
    ⟨some 20, .p (.mov (.t 91)), none⟩] [13, 15, 17, 18, 19, 20])
  c_law11_MergeCommutes_k1) Q e H := by_refl rfl
theorem u_law11_MergeCommutes_k3_e {P : Program} {Q : VEx → Env → List Ob → Prop} {e : Env} {H : List Ob} : vwp P c_law11_MergeCommutes_k3 Q e H = vwp P (.seq (.ops [⟨some 86, .p (.mov (.t 14)), none⟩,
    ⟨some 87, .p (.mov (.t 2)), none⟩,
    ⟨some 88, .s (.call 30 [.t 86, .t 87]), none⟩,
    ⟨some 19, .p (.mov (.t 88)), none⟩] [1, 13, 15, 16, 17, 18, 19])
  c_law11_MergeCommutes_k2) Q e H := by_refl rfl
theorem u_law11_MergeCommutes_k4_e {P : Program} {Q : VEx → Env → List Ob → Prop} {e : Env} {H : List Ob} : vwp P c_law11_MergeCommutes_k4 Q e H = vwp P (.seq (.ops [⟨some 83, .p (.mov (.t 12)), none⟩,
    ⟨some 84, .p (.mov (.t 1)), none⟩,
    ⟨some 85, .s (.call 30 [.t 83, .t 84]), none⟩,
    ⟨some 18, .p (.mov (.t 85)), none⟩] [1, 2, 13, 14, 15, 16, 17, 18])
  c_law11_MergeCommutes_k3) Q e H := by_refl rfl
theorem u_law11_MergeCommutes_k5_e {P : Program} {Q : VEx → Env → List Ob → Prop} {e : Env} {H : List Ob} : vwp P c_law11_MergeCommutes_k5 Q e H = vwp P (.seq (.ops [⟨some 77, .p (.mov (.t 0)), none⟩,
    ⟨some 78, .p (.mov (.t 1)), none⟩,
    ⟨some 79, .p (.mov (.t 1)), none⟩,
    ⟨some 80, .s (.call 28 [.t 77, .t 78, .t 79, .c (.string (str [97])), .c (.string (str [98]))]), none⟩,
    ⟨some 76, .p (.mov (.t 80)), none⟩,
    ⟨some 81, .p (.ext 0 (.t 76)), none⟩,
    ⟨some 82, .p (.ext 1 (.t 76)), none⟩,
    ⟨some 16, .p (.mov (.t 81)), none⟩,
    ⟨some 17, .p (.mov (.t 82)), none⟩] [1, 2, 12, 13, 14, 15, 16, 17])
  c_law11_MergeCommutes_k4) Q e H := by_refl rfl
theorem u_law11_MergeCommutes_k6_e {P : Program} {Q : VEx → Env → List Ob → Prop} {e : Env} {H : List Ob} : vwp P c_law11_MergeCommutes_k6 Q e H = vwp P (.seq (.ops [⟨some 70, .p (.mov (.t 0)), none⟩,
    ⟨some 71, .p (.mov (.t 0)), none⟩,
    ⟨some 72, .p (.mov (.t 2)), none⟩,
    ⟨some 73, .s (.call 28 [.t 70, .t 71, .t 72, .c (.string (str [97])), .c (.string (str [98]))]), none⟩,
    ⟨some 69, .p (.mov (.t 73)), none⟩,
    ⟨some 74, .p (.ext 0 (.t 69)), none⟩,
    ⟨some 75, .p (.ext 1 (.t 69)), none⟩,
    ⟨some 14, .p (.mov (.t 74)), none⟩,
    ⟨some 15, .p (.mov (.t 75)), none⟩] [0, 1, 2, 12, 13, 14, 15])
  c_law11_MergeCommutes_k5) Q e H := by_refl rfl
theorem u_law11_MergeCommutes_k7_e {P : Program} {Q : VEx → Env → List Ob → Prop} {e : Env} {H : List Ob} : vwp P c_law11_MergeCommutes_k7 Q e H = vwp P (.seq (.ops [⟨some 63, .p (.mov (.t 0)), none⟩,
    ⟨some 64, .p (.mov (.t 1)), none⟩,
    ⟨some 65, .p (.mov (.t 0)), none⟩,
    ⟨some 66, .s (.call 28 [.t 63, .t 64, .t 65, .c (.string (str [97])), .c (.string (str [98]))]), none⟩,
    ⟨some 62, .p (.mov (.t 66)), none⟩,
    ⟨some 67, .p (.ext 0 (.t 62)), none⟩,
    ⟨some 68, .p (.ext 1 (.t 62)), none⟩,
    ⟨some 12, .p (.mov (.t 67)), none⟩,
    ⟨some 13, .p (.mov (.t 68)), none⟩] [0, 1, 2, 12, 13])
  c_law11_MergeCommutes_k6) Q e H := by_refl rfl
theorem u_law11_MergeCommutes_k8_e {P : Program} {Q : VEx → Env → List Ob → Prop} {e : Env} {H : List Ob} : vwp P c_law11_MergeCommutes_k8 Q e H = vwp P (.seq (.seq (.ops [⟨some 51, .p (.mov (.t 8)), none⟩,
    ⟨some 52, .p (.mov (.t 10)), none⟩,
    ⟨some 53, .p (.bin 3 .neq (.t 51) (.t 52)), none⟩,
    ⟨some 54, .p (.mov (.t 53)), none⟩,
    ⟨some 55, .p (.mov (.t 8)), some ⟨54, false⟩⟩,
    ⟨some 56, .p (.bin 3 .eql (.t 55) (.c (.int .i64 ((0 : Nat) : Int)))), some ⟨54, false⟩⟩,
    ⟨some 57, .p (.mov (.t 56)), some ⟨54, false⟩⟩,
    ⟨some 58, .p (.mov (.t 11)), some ⟨57, true⟩⟩,
    ⟨some 59, .p (.un .not (.t 58)), some ⟨57, true⟩⟩,
    ⟨some 60, .p (.pick (.t 57) (.t 59) (.c (.bool false))), some ⟨54, false⟩⟩,
    ⟨some 61, .p (.pick (.t 54) (.c (.bool true)) (.t 60)), none⟩] [0, 1, 2, 61])
  (.cond (.t 61)
  (.seq (.ops [⟨some 6, .p (.mov (.c (.bool false))), none⟩] [6])
    (.ret))
  (.skip)))
  c_law11_MergeCommutes_k7) Q e H := by_refl rfl
theorem u_law11_MergeCommutes_k9_e {P : Program} {Q : VEx → Env → List Ob → Prop} {e : Env} {H : List Ob} : vwp P c_law11_MergeCommutes_k9 Q e H = vwp P (.seq (.ops [⟨some 48, .p (.mov (.t 7)), none⟩,
    ⟨some 49, .p (.mov (.t 9)), none⟩,
    ⟨some 50, .s (.call 30 [.t 48, .t 49]), none⟩,
    ⟨some 11, .p (.mov (.t 50)), none⟩] [0, 1, 2, 8, 10, 11])
  c_law11_MergeCommutes_k8) Q e H := by_refl rfl
theorem u_law11_MergeCommutes_k10_e {P : Program} {Q : VEx → Env → List Ob → Prop} {e : Env} {H : List Ob} : vwp P c_law11_MergeCommutes_k10 Q e H = vwp P (.seq (.ops [⟨some 42, .p (.mov (.t 0)), none⟩,
    ⟨some 43, .p (.mov (.t 2)), none⟩,
    ⟨some 44, .p (.mov (.t 1)), none⟩,
    ⟨some 45, .s (.call 28 [.t 42, .t 43, .t 44, .c (.string (str [98])), .c (.string (str [97]))]), none⟩,
    ⟨some 41, .p (.mov (.t 45)), none⟩,
    ⟨some 46, .p (.ext 0 (.t 41)), none⟩,
    ⟨some 47, .p (.ext 1 (.t 41)), none⟩,
    ⟨some 9, .p (.mov (.t 46)), none⟩,
    ⟨some 10, .p (.mov (.t 47)), none⟩] [0, 1, 2, 7, 8, 9, 10])
  c_law11_MergeCommutes_k9) Q e H := by_refl rfl
theorem u_law11_MergeCommutes_k11_e {P : Program} {Q : VEx → Env → List Ob → Prop} {e : Env} {H : List Ob} : vwp P c_law11_MergeCommutes_k11 Q e H = vwp P (.seq (.ops [⟨some 35, .p (.mov (.t 0)), none⟩,
    ⟨some 36, .p (.mov (.t 1)), none⟩,
    ⟨some 37, .p (.mov (.t 2)), none⟩,
    ⟨some 38, .s (.call 28 [.t 35, .t 36, .t 37, .c (.string (str [97])), .c (.string (str [98]))]), none⟩,
    ⟨some 34, .p (.mov (.t 38)), none⟩,
    ⟨some 39, .p (.ext 0 (.t 34)), none⟩,
    ⟨some 40, .p (.ext 1 (.t 34)), none⟩,
    ⟨some 7, .p (.mov (.t 39)), none⟩,
    ⟨some 8, .p (.mov (.t 40)), none⟩] [0, 1, 2, 7, 8])
  c_law11_MergeCommutes_k10) Q e H := by_refl rfl
theorem u_law11_MergeCommutes_k12_e {P : Program} {Q : VEx → Env → List Ob → Prop} {e : Env} {H : List Ob} : vwp P c_law11_MergeCommutes_k12 Q e H = vwp P (.seq (.seq (.ops [⟨some 21, .p (.mov (.t 0)), none⟩,
    ⟨some 22, .p (.lenV (.t 21)), none⟩,
    ⟨some 23, .p (.bin 3 .gtr (.t 22) (.c (.int .i64 ((3000 : Nat) : Int)))), none⟩,
    ⟨some 24, .p (.mov (.t 23)), none⟩,
    ⟨some 25, .p (.mov (.t 1)), some ⟨24, false⟩⟩,
    ⟨some 26, .p (.lenV (.t 25)), some ⟨24, false⟩⟩,
    ⟨some 27, .p (.bin 3 .gtr (.t 26) (.c (.int .i64 ((3000 : Nat) : Int)))), some ⟨24, false⟩⟩,
    ⟨some 28, .p (.pick (.t 24) (.c (.bool true)) (.t 27)), none⟩,
    ⟨some 29, .p (.mov (.t 28)), none⟩,
    ⟨some 30, .p (.mov (.t 2)), some ⟨29, false⟩⟩,
    ⟨some 31, .p (.lenV (.t 30)), some ⟨29, false⟩⟩,
    ⟨some 32, .p (.bin 3 .gtr (.t 31) (.c (.int .i64 ((3000 : Nat) : Int)))), some ⟨29, false⟩⟩,
    ⟨some 33, .p (.pick (.t 29) (.c (.bool true)) (.t 32)), none⟩] [0, 1, 2, 33])
  (.cond (.t 33)
  (.seq (.ops [⟨some 6, .p (.mov (.c (.bool true))), none⟩] [6])
    (.ret))
  (.skip)))
  c_law11_MergeCommutes_k11) Q e H := by_refl rfl
theorem u_law11_MergeCommutes_e {P : Program} {Q : VEx → Env → List Ob → Prop} {e : Env} {H : List Ob} : vwp P c_law11_MergeCommutes Q e H = vwp P (.seq (.ops [⟨some 6, .p (.mov (.c (.bool false))), none⟩] [0, 1, 2])
  c_law11_MergeCommutes_k12) Q e H := by_refl rfl
theorem u_law11_MergeCommutes_r {K : TV → Prop} {e : Env} {H : List Ob} : res r_law11_MergeCommutes e H K = res [.tmp 6] e H K := by_refl rfl
def u_law11_MergeCommutes := (And.intro (And.intro (And.intro (And.intro @u_law11_MergeCommutes_k1_e @u_law11_MergeCommutes_k2_e) (And.intro @u_law11_MergeCommutes_k3_e @u_law11_MergeCommutes_k4_e)) (And.intro (And.intro @u_law11_MergeCommutes_k5_e @u_law11_MergeCommutes_k6_e) (And.intro @u_law11_MergeCommutes_k7_e @u_law11_MergeCommutes_k8_e))) (And.intro (And.intro (And.intro @u_law11_MergeCommutes_k9_e @u_law11_MergeCommutes_k10_e) (And.intro @u_law11_MergeCommutes_k11_e @u_law11_MergeCommutes_k12_e)) (And.intro @u_law11_MergeCommutes_e @u_law11_MergeCommutes_r)))
theorem go_law11_MergeCommutes {args : List TV} {H : List Ob} {R : TV → List Ob → Prop} (hn : args.length ≤ 111) (h : vwp Try.prog c_law11_MergeCommutes (atEnd r_law11_MergeCommutes R) (argsE 0 args) H) : VCalls Try.prog 9 args H R := vcalls_of Try.func9 t_law11_MergeCommutes w_law11_MergeCommutes hn h

/-! strings.HasSuffix -/
def c_strings_HasSuffix : VCode := .seq (.ops [⟨some 4, .p (.mov (.c (.bool false))), none⟩] [0, 1])
  (.seq (.ops [⟨some 5, .p (.mov (.t 0)), none⟩,
    ⟨some 6, .p (.mov (.t 1)), none⟩,
    ⟨some 7, .s (.call 62 [.t 5, .t 6]), none⟩,
    ⟨some 4, .p (.mov (.t 7)), none⟩] [4])
  (.ret))
def r_strings_HasSuffix : List VR := [.tmp 4]
theorem t_strings_HasSuffix : Try.f60.body.bind (trC Try.prog Try.f60.ntmps) = some (er c_strings_HasSuffix) := by kernel_rfl
theorem w_strings_HasSuffix : trR Try.prog Try.f60.results.toList = some r_strings_HasSuffix := by kernel_rfl
theorem u_strings_HasSuffix_e {P : Program} {Q : VEx → Env → List Ob → Prop} {e : Env} {H : List Ob} : vwp P c_strings_HasSuffix Q e H = vwp P (.seq (.ops [⟨some 4, .p (.mov (.c (.bool false))), none⟩] [0, 1])
  (.seq (.ops [⟨some 5, .p (.mov (.t 0)), none⟩,
    ⟨some 6, .p (.mov (.t 1)), none⟩,
    ⟨some 7, .s (.call 62 [.t 5, .t 6]), none⟩,
    ⟨some 4, .p (.mov (.t 7)), none⟩] [4])
  (.ret))) Q e H := by_refl rfl
theorem u_strings_HasSuffix_r {K : TV → Prop} {e : Env} {H : List Ob} : res r_strings_HasSuffix e H K = res [.tmp 4] e H K := by_refl rfl
def u_strings_HasSuffix := (And.intro @u_strings_HasSuffix_e @u_strings_HasSuffix_r)
theorem go_strings_HasSuffix {args : List TV} {H : List Ob} {R : TV → List Ob → Prop} (hn : args.length ≤ 8) (h : vwp Try.prog c_strings_HasSuffix (atEnd r_strings_HasSuffix R) (argsE 0 args) H) : VCalls Try.prog 60 args H R := vcalls_of Try.func60 t_strings_HasSuffix w_strings_HasSuffix hn h

/-! internal/stringslite.HasSuffix -/
def c_internal_stringslite_HasSuffix_k1 : VCode := .seq (.ops [⟨some 5, .p (.mov (.t 0)), none⟩,
    ⟨some 6, .p (.lenS (.t 5)), none⟩,
    ⟨some 7, .p (.mov (.t 1)), none⟩,
    ⟨some 8, .p (.lenS (.t 7)), none⟩,
    ⟨some 9, .p (.bin 3 .geq (.t 6) (.t 8)), none⟩,
    ⟨some 10, .p (.mov (.t 9)), none⟩,
    ⟨some 11, .p (.mov (.t 0)), some ⟨10, true⟩⟩,
    ⟨some 12, .p (.mov (.t 0)), some ⟨10, true⟩⟩,
    ⟨some 13, .p (.lenS (.t 12)), some ⟨10, true⟩⟩,
    ⟨some 14, .p (.mov (.t 1)), some ⟨10, true⟩⟩,
    ⟨some 15, .p (.lenS (.t 14)), some ⟨10, true⟩⟩,
    ⟨some 16, .p (.bin 3 .sub (.t 13) (.t 15)), some ⟨10, true⟩⟩,
    ⟨some 17, .p (.slS (.t 11) (some (.t 16)) none), some ⟨10, true⟩⟩,
    ⟨some 18, .p (.mov (.t 1)), some ⟨10, true⟩⟩,
    ⟨some 19, .p (.bin 9 .eql (.t 17) (.t 18)), some ⟨10, true⟩⟩,
    ⟨some 20, .p (.pick (.t 10) (.t 19) (.c (.bool false))), none⟩,
    ⟨some 4, .p (.mov (.t 20)), none⟩] [4])
  (.ret)
def c_internal_stringslite_HasSuffix : VCode := .seq (.ops [⟨some 4, .p (.mov (.c (.bool false))), none⟩] [0, 1])
  c_internal_stringslite_HasSuffix_k1
def r_internal_stringslite_HasSuffix : List VR := [.tmp 4]
theorem t_internal_stringslite_HasSuffix : Try.f62.body.bind (trC Try.prog Try.f62.ntmps) = some (er c_internal_stringslite_HasSuffix) := by kernel_rfl
theorem w_internal_stringslite_HasSuffix : trR Try.prog Try.f62.results.toList = some r_internal_stringslite_HasSuffix := by kernel_rfl
theorem u_internal_stringslite_HasSuffix_k1_e {P : Program} {Q : VEx → Env → List Ob → Prop} {e : Env} {H : List Ob} : vwp P c_internal_stringslite_HasSuffix_k1 Q e H = vwp P (.seq (.ops [⟨some 5, .p (.mov (.t 0)), none⟩,
    ⟨some 6, .p (.lenS (.t 5)), none⟩,
    ⟨some 7, .p (.mov (.t 1)), none⟩,
    ⟨some 8, .p (.lenS (.t 7)), none⟩,
    ⟨some 9, .p (.bin 3 .geq (.t 6) (.t 8)), none⟩,
    ⟨some 10, .p (.mov (.t 9)), none⟩,
    ⟨some 11, .p (.mov (.t 0)), some ⟨10, true⟩⟩,
    ⟨some 12, .p (.mov (.t 0)), some ⟨10, true⟩⟩,
    ⟨some 13, .p (.lenS (.t 12)), some ⟨10, true⟩⟩,
    ⟨some 14, .p (.mov (.t 1)), some ⟨10, true⟩⟩,
    ⟨some 15, .p (.lenS (.t 14)), some ⟨10, true⟩⟩,
    ⟨some 16, .p (.bin 3 .sub (.t 13) (.t 15)), some ⟨10, true⟩⟩,
    ⟨some 17, .p (.slS (.t 11) (some (.t 16)) none), some ⟨10, true⟩⟩,
    ⟨some 18, .p (.mov (.t 1)), some ⟨10, true⟩⟩,
    ⟨some 19, .p (.bin 9 .eql (.t 17) (.t 18)), some ⟨10, true⟩⟩,
    ⟨some 20, .p (.pick (.t 10) (.t 19) (.c (.bool false))), none⟩,
    ⟨some 4, .p (.mov (.t 20)), none⟩] [4])
  (.ret)) Q e H := by_refl rfl
theorem u_internal_stringslite_HasSuffix_e {P : Program} {Q : VEx → Env → List Ob → Prop} {e : Env} {H : List Ob} : vwp P c_internal_stringslite_HasSuffix Q e H = vwp P (.seq (.ops [⟨some 4, .p (.mov (.c (.bool false))), none⟩] [0, 1])
  c_internal_stringslite_HasSuffix_k1) Q e H := by_refl rfl
theorem u_internal_stringslite_HasSuffix_r {K : TV → Prop} {e : Env} {H : List Ob} : res r_internal_stringslite_HasSuffix e H K = res [.tmp 4] e H K := by_refl rfl
def u_internal_stringslite_HasSuffix := (And.intro (And.intro @u_internal_stringslite_HasSuffix_k1_e @u_internal_stringslite_HasSuffix_e) @u_internal_stringslite_HasSuffix_r)
theorem go_internal_stringslite_HasSuffix {args : List TV} {H : List Ob} {R : TV → List Ob → Prop} (hn : args.length ≤ 21) (h : vwp Try.prog c_internal_stringslite_HasSuffix (atEnd r_internal_stringslite_HasSuffix R) (argsE 0 args) H) : VCalls Try.prog 62 args H R := vcalls_of Try.func62 t_internal_stringslite_HasSuffix w_internal_stringslite_HasSuffix hn h

/-! (*strings.Builder).Reset -/
def c_strings_Builder_Reset : VCode := .seq (.ops [⟨some 2, .p (.mov (.t 0)), none⟩,
    ⟨some 3, .p (.nilc (.t 2)), none⟩,
    ⟨some 4, .p (.fieldA 0 0 (.t 3)), none⟩,
    ⟨none, .s (.store 1 (.t 4) (.c (.pointer none))), none⟩] [0])
  (.ops [⟨some 5, .p (.mov (.t 0)), none⟩,
    ⟨some 6, .p (.nilc (.t 5)), none⟩,
    ⟨some 7, .p (.fieldA 1 1 (.t 6)), none⟩,
    ⟨none, .s (.store 1 (.t 7) (.c (.slice none 0 0))), none⟩] [])
def r_strings_Builder_Reset : List VR := []
theorem t_strings_Builder_Reset : Try.f51.body.bind (trC Try.prog Try.f51.ntmps) = some (er c_strings_Builder_Reset) := by kernel_rfl
theorem w_strings_Builder_Reset : trR Try.prog Try.f51.results.toList = some r_strings_Builder_Reset := by kernel_rfl
theorem u_strings_Builder_Reset_e {P : Program} {Q : VEx → Env → List Ob → Prop} {e : Env} {H : List Ob} : vwp P c_strings_Builder_Reset Q e H = vwp P (.seq (.ops [⟨some 2, .p (.mov (.t 0)), none⟩,
    ⟨some 3, .p (.nilc (.t 2)), none⟩,
    ⟨some 4, .p (.fieldA 0 0 (.t 3)), none⟩,
    ⟨none, .s (.store 1 (.t 4) (.c (.pointer none))), none⟩] [0])
  (.ops [⟨some 5, .p (.mov (.t 0)), none⟩,
    ⟨some 6, .p (.nilc (.t 5)), none⟩,
    ⟨some 7, .p (.fieldA 1 1 (.t 6)), none⟩,
    ⟨none, .s (.store 1 (.t 7) (.c (.slice none 0 0))), none⟩] [])) Q e H := by_refl rfl
theorem u_strings_Builder_Reset_r {K : TV → Prop} {e : Env} {H : List Ob} : res r_strings_Builder_Reset e H K = res [] e H K := by_refl rfl
def u_strings_Builder_Reset := (And.intro @u_strings_Builder_Reset_e @u_strings_Builder_Reset_r)
theorem go_strings_Builder_Reset {args : List TV} {H : List Ob} {R : TV → List Ob → Prop} (hn : args.length ≤ 8) (h : vwp Try.prog c_strings_Builder_Reset (atEnd r_strings_Builder_Reset R) (argsE 0 args) H) : VCalls Try.prog 51 args H R := vcalls_of Try.func51 t_strings_Builder_Reset w_strings_Builder_Reset hn h

end Go.Proofs.Ytknphdcjopaaoaa
