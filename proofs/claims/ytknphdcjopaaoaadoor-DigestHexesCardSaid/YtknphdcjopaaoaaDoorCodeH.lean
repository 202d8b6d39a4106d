/- The code of some functions, as the machine of values has it: printed by vm.py out of the program; each is the program's own (t_..: by the kernel). -/
import Derived.Test.YtknphdcjopaaoaaDoorVmO
import Derived.Test.YtknphdcjopaaoaaDoorProg
import Derived.KernelRfl
namespace Go.Proofs.YtknphdcjopaaoaaDoor
set_option linter.unusedVariables false
set_option linter.defProp false
set_option maxRecDepth 100000

/-! gitlike/digest.Hex -/
def c_digest_Hex_L1 : VCode := .seq (.ops [⟨some 8, .p (.bin 3 .lss (.t 7) (.c (.int .i64 ((20 : Nat) : Int)))), none⟩] [3, 6, 7, 8])
  (.seq (.cond (.t 8)
  (.skip)
  (.exit 0))
  (.seq (.block 1 (.seq (.ops [⟨some 9, .p (.idx false 20 1 (.t 6) (.t 7)), none⟩,
    ⟨some 5, .p (.mov (.t 9)), none⟩] [3, 5, 6, 7])
  (.seq (.ops [⟨some 10, .p (.mov (.t 5)), none⟩,
    ⟨some 11, .p (.bin 5 .shr (.t 10) (.c (.int .u64 ((4 : Nat) : Int)))), none⟩,
    ⟨some 12, .p (.idxS (.c (.string (str [48, 49, 50, 51, 52, 53, 54, 55, 56, 57, 97, 98, 99, 100, 101, 102]))) (.t 11)), none⟩,
    ⟨some 13, .s (.call 33 [.t 3, .t 12]), none⟩] [3, 5, 6, 7])
  (.ops [⟨some 14, .p (.mov (.t 5)), none⟩,
    ⟨some 15, .p (.bin 5 .and (.t 14) (.c (.int .u8 ((15 : Nat) : Int)))), none⟩,
    ⟨some 16, .p (.idxS (.c (.string (str [48, 49, 50, 51, 52, 53, 54, 55, 56, 57, 97, 98, 99, 100, 101, 102]))) (.t 15)), none⟩,
    ⟨some 17, .s (.call 33 [.t 3, .t 16]), none⟩] [3, 6, 7]))))
  (.ops [⟨some 18, .p (.bin 3 .add (.t 7) (.c (.int .i64 ((1 : Nat) : Int)))), none⟩,
    ⟨some 7, .p (.mov (.t 18)), none⟩] [3, 6, 7])))
def c_digest_Hex_k2 : VCode := .block 0 (.ownT 3 [(1, 1)] 5 (.loop [3, 6, 7] c_digest_Hex_L1))
def c_digest_Hex_k3 : VCode := .seq (.ops [⟨some 19, .s (.call 34 [.t 3]), none⟩,
    ⟨some 2, .p (.mov (.t 19)), none⟩] [2])
  (.ret)
def c_digest_Hex_k4 : VCode := .seq (.seq (.ops [⟨some 6, .p (.load true 20 (.t 1)), none⟩,
    ⟨some 7, .p (.mov (.c (.int .i64 ((0 : Nat) : Int)))), none⟩] [3, 6, 7])
  c_digest_Hex_k2)
  c_digest_Hex_k3
def c_digest_Hex_k5 : VCode := .seq (.ops [⟨some 3, .s (.allocT (.agg [.val (.pointer none), .val (.slice none 0 0)]) 70), none⟩] [1, 3])
  c_digest_Hex_k4
def c_digest_Hex : VCode := .seq (.ops [⟨some 1, .s (.box (.t 0)), none⟩,
    ⟨some 2, .p (.mov (.c (.string (str [])))), none⟩] [1])
  c_digest_Hex_k5
def r_digest_Hex : List VR := [.tmp 2]
theorem t_digest_Hex : Tryd.f13.body.bind (trC Tryd.prog Tryd.f13.ntmps) = some (er c_digest_Hex) := by kernel_rfl
theorem w_digest_Hex : trR Tryd.prog Tryd.f13.results.toList = some r_digest_Hex := by kernel_rfl
theorem u_digest_Hex_L1_e {P : Program} {Q : VEx → Env → List Ob → Prop} {e : Env} {H : List Ob} : vwp P c_digest_Hex_L1 Q e H = vwp P (.seq (.ops [⟨some 8, .p (.bin 3 .lss (.t 7) (.c (.int .i64 ((20 : Nat) : Int)))), none⟩] [3, 6, 7, 8])
  (.seq (.cond (.t 8)
  (.skip)
  (.exit 0))
  (.seq (.block 1 (.seq (.ops [⟨some 9, .p (.idx false 20 1 (.t 6) (.t 7)), none⟩,
    ⟨some 5, .p (.mov (.t 9)), none⟩] [3, 5, 6, 7])
  (.seq (.ops [⟨some 10, .p (.mov (.t 5)), none⟩,
    ⟨some 11, .p (.bin 5 .shr (.t 10) (.c (.int .u64 ((4 : Nat) : Int)))), none⟩,
    ⟨some 12, .p (.idxS (.c (.string (str [48, 49, 50, 51, 52, 53, 54, 55, 56, 57, 97, 98, 99, 100, 101, 102]))) (.t 11)), none⟩,
    ⟨some 13, .s (.call 33 [.t 3, .t 12]), none⟩] [3, 5, 6, 7])
  (.ops [⟨some 14, .p (.mov (.t 5)), none⟩,
    ⟨some 15, .p (.bin 5 .and (.t 14) (.c (.int .u8 ((15 : Nat) : Int)))), none⟩,
    ⟨some 16, .p (.idxS (.c (.string (str [48, 49, 50, 51, 52, 53, 54, 55, 56, 57, 97, 98, 99, 100, 101, 102]))) (.t 15)), none⟩,
    ⟨some 17, .s (.call 33 [.t 3, .t 16]), none⟩] [3, 6, 7]))))
  (.ops [⟨some 18, .p (.bin 3 .add (.t 7) (.c (.int .i64 ((1 : Nat) : Int)))), none⟩,
    ⟨some 7, .p (.mov (.t 18)), none⟩] [3, 6, 7])))) Q e H := by_refl rfl
theorem u_digest_Hex_k2_e {P : Program} {Q : VEx → Env → List Ob → Prop} {e : Env} {H : List Ob} : vwp P c_digest_Hex_k2 Q e H = vwp P (.block 0 (.ownT 3 [(1, 1)] 5 (.loop [3, 6, 7] c_digest_Hex_L1))) Q e H := by_refl rfl
theorem u_digest_Hex_k3_e {P : Program} {Q : VEx → Env → List Ob → Prop} {e : Env} {H : List Ob} : vwp P c_digest_Hex_k3 Q e H = vwp P (.seq (.ops [⟨some 19, .s (.call 34 [.t 3]), none⟩,
    ⟨some 2, .p (.mov (.t 19)), none⟩] [2])
  (.ret)) Q e H := by_refl rfl
theorem u_digest_Hex_k4_e {P : Program} {Q : VEx → Env → List Ob → Prop} {e : Env} {H : List Ob} : vwp P c_digest_Hex_k4 Q e H = vwp P (.seq (.seq (.ops [⟨some 6, .p (.load true 20 (.t 1)), none⟩,
    ⟨some 7, .p (.mov (.c (.int .i64 ((0 : Nat) : Int)))), none⟩] [3, 6, 7])
  c_digest_Hex_k2)
  c_digest_Hex_k3) Q e H := by_refl rfl
theorem u_digest_Hex_k5_e {P : Program} {Q : VEx → Env → List Ob → Prop} {e : Env} {H : List Ob} : vwp P c_digest_Hex_k5 Q e H = vwp P (.seq (.ops [⟨some 3, .s (.allocT (.agg [.val (.pointer none), .val (.slice none 0 0)]) 70), none⟩] [1, 3])
  c_digest_Hex_k4) Q e H := by_refl rfl
theorem u_digest_Hex_e {P : Program} {Q : VEx → Env → List Ob → Prop} {e : Env} {H : List Ob} : vwp P c_digest_Hex Q e H = vwp P (.seq (.ops [⟨some 1, .s (.box (.t 0)), none⟩,
    ⟨some 2, .p (.mov (.c (.string (str [])))), none⟩] [1])
  c_digest_Hex_k5) Q e H := by_refl rfl
theorem u_digest_Hex_r {K : TV → Prop} {e : Env} {H : List Ob} : res r_digest_Hex e H K = res [.tmp 2] e H K := by_refl rfl
def u_digest_Hex := (And.intro (And.intro (And.intro @u_digest_Hex_L1_e @u_digest_Hex_k2_e) (And.intro @u_digest_Hex_k3_e @u_digest_Hex_k4_e)) (And.intro (And.intro @u_digest_Hex_k5_e @u_digest_Hex_e) @u_digest_Hex_r))
theorem go_digest_Hex {args : List TV} {H : List Ob} {R : TV → List Ob → Prop} (hn : args.length ≤ 20) (h : vwp Tryd.prog c_digest_Hex (atEnd r_digest_Hex R) (argsE 0 args) H) : VCalls Tryd.prog 13 args H R := vcalls_of Tryd.func13 t_digest_Hex w_digest_Hex hn h

/-! gitlike/gitlikeref2.Hex -/
def c_ref2_Hex_k1 : VCode := .seq (.block 1 (.draw 10 [⟨some 9, .p (.mov (.t 3)), none⟩,
    ⟨some 10, .p (.mov (.t 4)), none⟩,
    ⟨some 11, .p (.idxAA 20 1 (.t 1) (.t 10)), none⟩,
    ⟨some 12, .p (.load false 1 (.t 11)), none⟩,
    ⟨some 13, .p (.bin 5 .quo (.t 12) (.c (.int .u8 ((16 : Nat) : Int)))), none⟩,
    ⟨some 14, .s (.call 35 [.t 13]), none⟩,
    ⟨some 15, .p (.mov (.t 4)), none⟩,
    ⟨some 16, .p (.idxAA 20 1 (.t 1) (.t 15)), none⟩,
    ⟨some 17, .p (.load false 1 (.t 16)), none⟩,
    ⟨some 18, .p (.bin 5 .rem (.t 17) (.c (.int .u8 ((16 : Nat) : Int)))), none⟩,
    ⟨some 19, .s (.call 35 [.t 18]), none⟩,
    ⟨some 20, .s (.bslice 1 2 (.val (.int .u8 ((0 : Nat) : Int))) [⟨0, .t 14⟩, ⟨1, .t 19⟩]), none⟩,
    ⟨some 21, .s (.app 1 1 5 (.t 9) (.t 20)), none⟩,
    ⟨some 3, .p (.mov (.t 21)), none⟩] [1, 3, 4]))
  (.ops [⟨some 7, .p (.mov (.t 4)), none⟩,
    ⟨some 8, .p (.bin 3 .add (.t 7) (.c (.int .i64 ((1 : Nat) : Int)))), none⟩,
    ⟨some 4, .p (.mov (.t 8)), none⟩] [1, 3, 4])
def c_ref2_Hex_L2 : VCode := .seq (.seq (.ops [⟨some 5, .p (.mov (.t 4)), none⟩,
    ⟨some 6, .p (.bin 3 .lss (.t 5) (.c (.int .i64 ((20 : Nat) : Int)))), none⟩] [1, 3, 4, 6])
  (.cond (.t 6)
  (.skip)
  (.exit 0)))
  c_ref2_Hex_k1
def c_ref2_Hex_k3 : VCode := .block 0 (.own 3 1 (.loop [1, 3, 4] c_ref2_Hex_L2))
def c_ref2_Hex_k4 : VCode := .seq (.ops [⟨some 22, .p (.mov (.t 3)), none⟩,
    ⟨some 23, .p (.b2s (.t 22)), none⟩,
    ⟨some 2, .p (.mov (.t 23)), none⟩] [2])
  (.ret)
def c_ref2_Hex_k5 : VCode := .seq (.seq (.ops [⟨some 4, .p (.mov (.c (.int .i64 ((0 : Nat) : Int)))), none⟩] [1, 3, 4])
  c_ref2_Hex_k3)
  c_ref2_Hex_k4
def c_ref2_Hex_k6 : VCode := .seq (.ops [⟨some 3, .p (.mov (.c (.slice none 0 0))), none⟩] [1, 3])
  c_ref2_Hex_k5
def c_ref2_Hex : VCode := .seq (.ops [⟨some 1, .s (.box (.t 0)), none⟩,
    ⟨some 2, .p (.mov (.c (.string (str [])))), none⟩] [1])
  c_ref2_Hex_k6
def r_ref2_Hex : List VR := [.tmp 2]
theorem t_ref2_Hex : Tryd.f14.body.bind (trC Tryd.prog Tryd.f14.ntmps) = some (er c_ref2_Hex) := by kernel_rfl
theorem w_ref2_Hex : trR Tryd.prog Tryd.f14.results.toList = some r_ref2_Hex := by kernel_rfl
theorem u_ref2_Hex_k1_e {P : Program} {Q : VEx → Env → List Ob → Prop} {e : Env} {H : List Ob} : vwp P c_ref2_Hex_k1 Q e H = vwp P (.seq (.block 1 (.draw 10 [⟨some 9, .p (.mov (.t 3)), none⟩,
    ⟨some 10, .p (.mov (.t 4)), none⟩,
    ⟨some 11, .p (.idxAA 20 1 (.t 1) (.t 10)), none⟩,
    ⟨some 12, .p (.load false 1 (.t 11)), none⟩,
    ⟨some 13, .p (.bin 5 .quo (.t 12) (.c (.int .u8 ((16 : Nat) : Int)))), none⟩,
    ⟨some 14, .s (.call 35 [.t 13]), none⟩,
    ⟨some 15, .p (.mov (.t 4)), none⟩,
    ⟨some 16, .p (.idxAA 20 1 (.t 1) (.t 15)), none⟩,
    ⟨some 17, .p (.load false 1 (.t 16)), none⟩,
    ⟨some 18, .p (.bin 5 .rem (.t 17) (.c (.int .u8 ((16 : Nat) : Int)))), none⟩,
    ⟨some 19, .s (.call 35 [.t 18]), none⟩,
    ⟨some 20, .s (.bslice 1 2 (.val (.int .u8 ((0 : Nat) : Int))) [⟨0, .t 14⟩, ⟨1, .t 19⟩]), none⟩,
    ⟨some 21, .s (.app 1 1 5 (.t 9) (.t 20)), none⟩,
    ⟨some 3, .p (.mov (.t 21)), none⟩] [1, 3, 4]))
  (.ops [⟨some 7, .p (.mov (.t 4)), none⟩,
    ⟨some 8, .p (.bin 3 .add (.t 7) (.c (.int .i64 ((1 : Nat) : Int)))), none⟩,
    ⟨some 4, .p (.mov (.t 8)), none⟩] [1, 3, 4])) Q e H := by_refl rfl
theorem u_ref2_Hex_L2_e {P : Program} {Q : VEx → Env → List Ob → Prop} {e : Env} {H : List Ob} : vwp P c_ref2_Hex_L2 Q e H = vwp P (.seq (.seq (.ops [⟨some 5, .p (.mov (.t 4)), none⟩,
    ⟨some 6, .p (.bin 3 .lss (.t 5) (.c (.int .i64 ((20 : Nat) : Int)))), none⟩] [1, 3, 4, 6])
  (.cond (.t 6)
  (.skip)
  (.exit 0)))
  c_ref2_Hex_k1) Q e H := by_refl rfl
theorem u_ref2_Hex_k3_e {P : Program} {Q : VEx → Env → List Ob → Prop} {e : Env} {H : List Ob} : vwp P c_ref2_Hex_k3 Q e H = vwp P (.block 0 (.own 3 1 (.loop [1, 3, 4] c_ref2_Hex_L2))) Q e H := by_refl rfl
theorem u_ref2_Hex_k4_e {P : Program} {Q : VEx → Env → List Ob → Prop} {e : Env} {H : List Ob} : vwp P c_ref2_Hex_k4 Q e H = vwp P (.seq (.ops [⟨some 22, .p (.mov (.t 3)), none⟩,
    ⟨some 23, .p (.b2s (.t 22)), none⟩,
    ⟨some 2, .p (.mov (.t 23)), none⟩] [2])
  (.ret)) Q e H := by_refl rfl
theorem u_ref2_Hex_k5_e {P : Program} {Q : VEx → Env → List Ob → Prop} {e : Env} {H : List Ob} : vwp P c_ref2_Hex_k5 Q e H = vwp P (.seq (.seq (.ops [⟨some 4, .p (.mov (.c (.int .i64 ((0 : Nat) : Int)))), none⟩] [1, 3, 4])
  c_ref2_Hex_k3)
  c_ref2_Hex_k4) Q e H := by_refl rfl
theorem u_ref2_Hex_k6_e {P : Program} {Q : VEx → Env → List Ob → Prop} {e : Env} {H : List Ob} : vwp P c_ref2_Hex_k6 Q e H = vwp P (.seq (.ops [⟨some 3, .p (.mov (.c (.slice none 0 0))), none⟩] [1, 3])
  c_ref2_Hex_k5) Q e H := by_refl rfl
theorem u_ref2_Hex_e {P : Program} {Q : VEx → Env → List Ob → Prop} {e : Env} {H : List Ob} : vwp P c_ref2_Hex Q e H = vwp P (.seq (.ops [⟨some 1, .s (.box (.t 0)), none⟩,
    ⟨some 2, .p (.mov (.c (.string (str [])))), none⟩] [1])
  c_ref2_Hex_k6) Q e H := by_refl rfl
theorem u_ref2_Hex_r {K : TV → Prop} {e : Env} {H : List Ob} : res r_ref2_Hex e H K = res [.tmp 2] e H K := by_refl rfl
def u_ref2_Hex := (And.intro (And.intro (And.intro @u_ref2_Hex_k1_e @u_ref2_Hex_L2_e) (And.intro @u_ref2_Hex_k3_e @u_ref2_Hex_k4_e)) (And.intro (And.intro @u_ref2_Hex_k5_e @u_ref2_Hex_k6_e) (And.intro @u_ref2_Hex_e @u_ref2_Hex_r)))
theorem go_ref2_Hex {args : List TV} {H : List Ob} {R : TV → List Ob → Prop} (hn : args.length ≤ 24) (h : vwp Tryd.prog c_ref2_Hex (atEnd r_ref2_Hex R) (argsE 0 args) H) : VCalls Tryd.prog 14 args H R := vcalls_of Tryd.func14 t_ref2_Hex w_ref2_Hex hn h

/-! gitlike/gitlikeref2.digit -/
def c_ref2_digit : VCode := .seq (.ops [⟨some 2, .p (.mov (.c (.int .u8 ((0 : Nat) : Int)))), none⟩] [0])
  (.seq (.seq (.ops [⟨some 3, .p (.mov (.t 0)), none⟩,
    ⟨some 4, .p (.bin 5 .lss (.t 3) (.c (.int .u8 ((10 : Nat) : Int)))), none⟩] [0, 4])
  (.cond (.t 4)
  (.seq (.ops [⟨some 5, .p (.mov (.t 0)), none⟩,
      ⟨some 6, .p (.bin 5 .add (.c (.int .u8 ((48 : Nat) : Int))) (.t 5)), none⟩,
      ⟨some 2, .p (.mov (.t 6)), none⟩] [2])
    (.ret))
  (.skip)))
  (.seq (.ops [⟨some 7, .p (.mov (.t 0)), none⟩,
    ⟨some 8, .p (.bin 5 .add (.c (.int .u8 ((97 : Nat) : Int))) (.t 7)), none⟩,
    ⟨some 9, .p (.bin 5 .sub (.t 8) (.c (.int .u8 ((10 : Nat) : Int)))), none⟩,
    ⟨some 2, .p (.mov (.t 9)), none⟩] [2])
  (.ret)))
def r_ref2_digit : List VR := [.tmp 2]
theorem t_ref2_digit : Tryd.f35.body.bind (trC Tryd.prog Tryd.f35.ntmps) = some (er c_ref2_digit) := by kernel_rfl
theorem w_ref2_digit : trR Tryd.prog Tryd.f35.results.toList = some r_ref2_digit := by kernel_rfl
theorem u_ref2_digit_e {P : Program} {Q : VEx → Env → List Ob → Prop} {e : Env} {H : List Ob} : vwp P c_ref2_digit Q e H = vwp P (.seq (.ops [⟨some 2, .p (.mov (.c (.int .u8 ((0 : Nat) : Int)))), none⟩] [0])
  (.seq (.seq (.ops [⟨some 3, .p (.mov (.t 0)), none⟩,
    ⟨some 4, .p (.bin 5 .lss (.t 3) (.c (.int .u8 ((10 : Nat) : Int)))), none⟩] [0, 4])
  (.cond (.t 4)
  (.seq (.ops [⟨some 5, .p (.mov (.t 0)), none⟩,
      ⟨some 6, .p (.bin 5 .add (.c (.int .u8 ((48 : Nat) : Int))) (.t 5)), none⟩,
      ⟨some 2, .p (.mov (.t 6)), none⟩] [2])
    (.ret))
  (.skip)))
  (.seq (.ops [⟨some 7, .p (.mov (.t 0)), none⟩,
    ⟨some 8, .p (.bin 5 .add (.c (.int .u8 ((97 : Nat) : Int))) (.t 7)), none⟩,
    ⟨some 9, .p (.bin 5 .sub (.t 8) (.c (.int .u8 ((10 : Nat) : Int)))), none⟩,
    ⟨some 2, .p (.mov (.t 9)), none⟩] [2])
  (.ret)))) Q e H := by_refl rfl
theorem u_ref2_digit_r {K : TV → Prop} {e : Env} {H : List Ob} : res r_ref2_digit e H K = res [.tmp 2] e H K := by_refl rfl
def u_ref2_digit := (And.intro @u_ref2_digit_e @u_ref2_digit_r)
theorem go_ref2_digit {args : List TV} {H : List Ob} {R : TV → List Ob → Prop} (hn : args.length ≤ 10) (h : vwp Tryd.prog c_ref2_digit (atEnd r_ref2_digit R) (argsE 0 args) H) : VCalls Tryd.prog 35 args H R := vcalls_of Tryd.func35 t_ref2_digit w_ref2_digit hn h

/-! gitlike/digest.Parse -/
def c_digest_Parse_k1 : VCode := .seq (.seq (.ops [⟨some 27, .p (.mov (.t 6)), none⟩,
    ⟨some 28, .p (.bin 3 .lss (.t 27) (.c (.int .i64 ((0 : Nat) : Int)))), none⟩,
    ⟨some 29, .p (.mov (.t 28)), none⟩,
    ⟨some 30, .p (.mov (.t 7)), some ⟨29, false⟩⟩,
    ⟨some 31, .p (.bin 3 .lss (.t 30) (.c (.int .i64 ((0 : Nat) : Int)))), some ⟨29, false⟩⟩,
    ⟨some 32, .p (.pick (.t 29) (.c (.bool true)) (.t 31)), none⟩] [0, 2, 4, 5, 6, 7, 13, 32])
  (.cond (.t 32)
  (.seq (.ops [⟨some 33, .p (.buildA 20 1 [.val (.int .u8 ((0 : Nat) : Int)), .val (.int .u8 ((0 : Nat) : Int)), .val (.int .u8 ((0 : Nat) : Int)), .val (.int .u8 ((0 : Nat) : Int)), .val (.int .u8 ((0 : Nat) : Int)), .val (.int .u8 ((0 : Nat) : Int)), .val (.int .u8 ((0 : Nat) : Int)), .val (.int .u8 ((0 : Nat) : Int)), .val (.int .u8 ((0 : Nat) : Int)), .val (.int .u8 ((0 : Nat) : Int)), .val (.int .u8 ((0 : Nat) : Int)), .val (.int .u8 ((0 : Nat) : Int)), .val (.int .u8 ((0 : Nat) : Int)), .val (.int .u8 ((0 : Nat) : Int)), .val (.int .u8 ((0 : Nat) : Int)), .val (.int .u8 ((0 : Nat) : Int)), .val (.int .u8 ((0 : Nat) : Int)), .val (.int .u8 ((0 : Nat) : Int)), .val (.int .u8 ((0 : Nat) : Int)), .val (.int .u8 ((0 : Nat) : Int))] []), none⟩,
      ⟨some 34, .p (.iface 30 (.c (.int .i64 ((12 : Nat) : Int)))), none⟩,
      ⟨none, .s (.store 20 (.t 2) (.t 33)), none⟩,
      ⟨some 3, .p (.mov (.t 34)), none⟩] [2, 3])
    (.ret))
  (.skip)))
  (.ops [⟨some 35, .p (.mov (.t 5)), none⟩,
    ⟨some 36, .p (.mov (.t 6)), none⟩,
    ⟨some 37, .p (.bin 3 .shl (.t 36) (.c (.int .u64 ((4 : Nat) : Int)))), none⟩,
    ⟨some 38, .p (.mov (.t 7)), none⟩,
    ⟨some 39, .p (.bin 3 .or (.t 37) (.t 38)), none⟩,
    ⟨some 40, .p (.conv .u8 (.t 39)), none⟩,
    ⟨some 41, .p (.idxAA 20 1 (.t 4) (.t 35)), none⟩,
    ⟨none, .s (.store 1 (.t 41) (.t 40)), none⟩] [0, 2, 4, 13])
def c_digest_Parse_k2 : VCode := .seq (.draw 10 [⟨some 16, .p (.mov (.t 0)), none⟩,
    ⟨some 17, .p (.mov (.t 5)), none⟩,
    ⟨some 18, .p (.bin 3 .mul (.c (.int .i64 ((2 : Nat) : Int))) (.t 17)), none⟩,
    ⟨some 19, .p (.idxS (.t 16) (.t 18)), none⟩,
    ⟨some 20, .s (.call 36 [.c (.string (str [48, 49, 50, 51, 52, 53, 54, 55, 56, 57, 97, 98, 99, 100, 101, 102])), .t 19]), none⟩,
    ⟨some 21, .p (.mov (.t 0)), none⟩,
    ⟨some 22, .p (.mov (.t 5)), none⟩,
    ⟨some 23, .p (.bin 3 .mul (.c (.int .i64 ((2 : Nat) : Int))) (.t 22)), none⟩,
    ⟨some 24, .p (.bin 3 .add (.t 23) (.c (.int .i64 ((1 : Nat) : Int)))), none⟩,
    ⟨some 25, .p (.idxS (.t 21) (.t 24)), none⟩,
    ⟨some 26, .s (.call 36 [.c (.string (str [48, 49, 50, 51, 52, 53, 54, 55, 56, 57, 97, 98, 99, 100, 101, 102])), .t 25]), none⟩,
    ⟨some 6, .p (.mov (.t 20)), none⟩,
    ⟨some 7, .p (.mov (.t 26)), none⟩] [0, 2, 4, 5, 6, 7, 13])
  c_digest_Parse_k1
def c_digest_Parse_k3 : VCode := .seq (.block 1 (.seq (.ops [⟨some 15, .p (.mov (.t 13)), none⟩,
    ⟨some 5, .p (.mov (.t 15)), none⟩] [0, 2, 4, 5, 13])
  c_digest_Parse_k2))
  (.ops [⟨some 42, .p (.bin 3 .add (.t 13) (.c (.int .i64 ((1 : Nat) : Int)))), none⟩,
    ⟨some 13, .p (.mov (.t 42)), none⟩] [0, 2, 4, 13])
def c_digest_Parse_k4 : VCode := .seq (.cond (.t 14)
  (.skip)
  (.exit 0))
  c_digest_Parse_k3
def c_digest_Parse_L5 : VCode := .seq (.ops [⟨some 14, .p (.bin 3 .lss (.t 13) (.c (.int .i64 ((20 : Nat) : Int)))), none⟩] [0, 2, 4, 13, 14])
  c_digest_Parse_k4
def c_digest_Parse_k6 : VCode := .block 0 (.loop [0, 2, 4, 13] c_digest_Parse_L5)
def c_digest_Parse_k7 : VCode := .seq (.ops [⟨some 43, .p (.load true 20 (.t 4)), none⟩,
    ⟨none, .s (.store 20 (.t 2) (.t 43)), none⟩,
    ⟨some 3, .p (.mov (.c .nilIface)), none⟩] [2, 3])
  (.ret)
def c_digest_Parse_k8 : VCode := .seq (.seq (.ops [⟨some 13, .p (.mov (.c (.int .i64 ((0 : Nat) : Int)))), none⟩] [0, 2, 4, 13])
  c_digest_Parse_k6)
  c_digest_Parse_k7
def c_digest_Parse_k9 : VCode := .seq (.seq (.ops [⟨some 8, .p (.mov (.t 0)), none⟩,
    ⟨some 9, .p (.lenS (.t 8)), none⟩,
    ⟨some 10, .p (.bin 3 .neq (.t 9) (.c (.int .i64 ((40 : Nat) : Int)))), none⟩] [0, 2, 4, 10])
  (.cond (.t 10)
  (.seq (.ops [⟨some 11, .p (.load true 20 (.t 4)), none⟩,
      ⟨some 12, .p (.iface 30 (.c (.int .i64 ((12 : Nat) : Int)))), none⟩,
      ⟨none, .s (.store 20 (.t 2) (.t 11)), none⟩,
      ⟨some 3, .p (.mov (.t 12)), none⟩] [2, 3])
    (.ret))
  (.skip)))
  c_digest_Parse_k8
def c_digest_Parse_k10 : VCode := .seq (.ops [⟨some 4, .s (.alloc (.arr 20 1 [.val (.int .u8 ((0 : Nat) : Int)), .val (.int .u8 ((0 : Nat) : Int)), .val (.int .u8 ((0 : Nat) : Int)), .val (.int .u8 ((0 : Nat) : Int)), .val (.int .u8 ((0 : Nat) : Int)), .val (.int .u8 ((0 : Nat) : Int)), .val (.int .u8 ((0 : Nat) : Int)), .val (.int .u8 ((0 : Nat) : Int)), .val (.int .u8 ((0 : Nat) : Int)), .val (.int .u8 ((0 : Nat) : Int)), .val (.int .u8 ((0 : Nat) : Int)), .val (.int .u8 ((0 : Nat) : Int)), .val (.int .u8 ((0 : Nat) : Int)), .val (.int .u8 ((0 : Nat) : Int)), .val (.int .u8 ((0 : Nat) : Int)), .val (.int .u8 ((0 : Nat) : Int)), .val (.int .u8 ((0 : Nat) : Int)), .val (.int .u8 ((0 : Nat) : Int)), .val (.int .u8 ((0 : Nat) : Int)), .val (.int .u8 ((0 : Nat) : Int))])), none⟩] [0, 2, 4])
  c_digest_Parse_k9
def c_digest_Parse : VCode := .seq (.ops [⟨some 2, .s (.alloc (.arr 20 1 [.val (.int .u8 ((0 : Nat) : Int)), .val (.int .u8 ((0 : Nat) : Int)), .val (.int .u8 ((0 : Nat) : Int)), .val (.int .u8 ((0 : Nat) : Int)), .val (.int .u8 ((0 : Nat) : Int)), .val (.int .u8 ((0 : Nat) : Int)), .val (.int .u8 ((0 : Nat) : Int)), .val (.int .u8 ((0 : Nat) : Int)), .val (.int .u8 ((0 : Nat) : Int)), .val (.int .u8 ((0 : Nat) : Int)), .val (.int .u8 ((0 : Nat) : Int)), .val (.int .u8 ((0 : Nat) : Int)), .val (.int .u8 ((0 : Nat) : Int)), .val (.int .u8 ((0 : Nat) : Int)), .val (.int .u8 ((0 : Nat) : Int)), .val (.int .u8 ((0 : Nat) : Int)), .val (.int .u8 ((0 : Nat) : Int)), .val (.int .u8 ((0 : Nat) : Int)), .val (.int .u8 ((0 : Nat) : Int)), .val (.int .u8 ((0 : Nat) : Int))])), none⟩,
    ⟨some 3, .p (.mov (.c .nilIface)), none⟩] [0, 2])
  c_digest_Parse_k10
def r_digest_Parse : List VR := [.cell 2 true 20, .tmp 3]
theorem t_digest_Parse : Tryd.f15.body.bind (trC Tryd.prog Tryd.f15.ntmps) = some (er c_digest_Parse) := by kernel_rfl
theorem w_digest_Parse : trR Tryd.prog Tryd.f15.results.toList = some r_digest_Parse := by kernel_rfl
theorem u_digest_Parse_k1_e {P : Program} {Q : VEx → Env → List Ob → Prop} {e : Env} {H : List Ob} : vwp P c_digest_Parse_k1 Q e H = vwp P (.seq (.seq (.ops [⟨some 27, .p (.mov (.t 6)), none⟩,
    ⟨some 28, .p (.bin 3 .lss (.t 27) (.c (.int .i64 ((0 : Nat) : Int)))), none⟩,
    ⟨some 29, .p (.mov (.t 28)), none⟩,
    ⟨some 30, .p (.mov (.t 7)), some ⟨29, false⟩⟩,
    ⟨some 31, .p (.bin 3 .lss (.t 30) (.c (.int .i64 ((0 : Nat) : Int)))), some ⟨29, false⟩⟩,
    ⟨some 32, .p (.pick (.t 29) (.c (.bool true)) (.t 31)), none⟩] [0, 2, 4, 5, 6, 7, 13, 32])
  (.cond (.t 32)
  (.seq (.ops [⟨some 33, .p (.buildA 20 1 [.val (.int .u8 ((0 : Nat) : Int)), .val (.int .u8 ((0 : Nat) : Int)), .val (.int .u8 ((0 : Nat) : Int)), .val (.int .u8 ((0 : Nat) : Int)), .val (.int .u8 ((0 : Nat) : Int)), .val (.int .u8 ((0 : Nat) : Int)), .val (.int .u8 ((0 : Nat) : Int)), .val (.int .u8 ((0 : Nat) : Int)), .val (.int .u8 ((0 : Nat) : Int)), .val (.int .u8 ((0 : Nat) : Int)), .val (.int .u8 ((0 : Nat) : Int)), .val (.int .u8 ((0 : Nat) : Int)), .val (.int .u8 ((0 : Nat) : Int)), .val (.int .u8 ((0 : Nat) : Int)), .val (.int .u8 ((0 : Nat) : Int)), .val (.int .u8 ((0 : Nat) : Int)), .val (.int .u8 ((0 : Nat) : Int)), .val (.int .u8 ((0 : Nat) : Int)), .val (.int .u8 ((0 : Nat) : Int)), .val (.int .u8 ((0 : Nat) : Int))] []), none⟩,
      ⟨some 34, .p (.iface 30 (.c (.int .i64 ((12 : Nat) : Int)))), none⟩,
      ⟨none, .s (.store 20 (.t 2) (.t 33)), none⟩,
      ⟨some 3, .p (.mov (.t 34)), none⟩] [2, 3])
    (.ret))
  (.skip)))
  (.ops [⟨some 35, .p (.mov (.t 5)), none⟩,
    ⟨some 36, .p (.mov (.t 6)), none⟩,
    ⟨some 37, .p (.bin 3 .shl (.t 36) (.c (.int .u64 ((4 : Nat) : Int)))), none⟩,
    ⟨some 38, .p (.mov (.t 7)), none⟩,
    ⟨some 39, .p (.bin 3 .or (.t 37) (.t 38)), none⟩,
    ⟨some 40, .p (.conv .u8 (.t 39)), none⟩,
    ⟨some 41, .p (.idxAA 20 1 (.t 4) (.t 35)), none⟩,
    ⟨none, .s (.store 1 (.t 41) (.t 40)), none⟩] [0, 2, 4, 13])) Q e H := by_refl rfl
theorem u_digest_Parse_k2_e {P : Program} {Q : VEx → Env → List Ob → Prop} {e : Env} {H : List Ob} : vwp P c_digest_Parse_k2 Q e H = vwp P (.seq (.draw 10 [⟨some 16, .p (.mov (.t 0)), none⟩,
    ⟨some 17, .p (.mov (.t 5)), none⟩,
    ⟨some 18, .p (.bin 3 .mul (.c (.int .i64 ((2 : Nat) : Int))) (.t 17)), none⟩,
    ⟨some 19, .p (.idxS (.t 16) (.t 18)), none⟩,
    ⟨some 20, .s (.call 36 [.c (.string (str [48, 49, 50, 51, 52, 53, 54, 55, 56, 57, 97, 98, 99, 100, 101, 102])), .t 19]), none⟩,
    ⟨some 21, .p (.mov (.t 0)), none⟩,
    ⟨some 22, .p (.mov (.t 5)), none⟩,
    ⟨some 23, .p (.bin 3 .mul (.c (.int .i64 ((2 : Nat) : Int))) (.t 22)), none⟩,
    ⟨some 24, .p (.bin 3 .add (.t 23) (.c (.int .i64 ((1 : Nat) : Int)))), none⟩,
    ⟨some 25, .p (.idxS (.t 21) (.t 24)), none⟩,
    ⟨some 26, .s (.call 36 [.c (.string (str [48, 49, 50, 51, 52, 53, 54, 55, 56, 57, 97, 98, 99, 100, 101, 102])), .t 25]), none⟩,
    ⟨some 6, .p (.mov (.t 20)), none⟩,
    ⟨some 7, .p (.mov (.t 26)), none⟩] [0, 2, 4, 5, 6, 7, 13])
  c_digest_Parse_k1) Q e H := by_refl rfl
theorem u_digest_Parse_k3_e {P : Program} {Q : VEx → Env → List Ob → Prop} {e : Env} {H : List Ob} : vwp P c_digest_Parse_k3 Q e H = vwp P (.seq (.block 1 (.seq (.ops [⟨some 15, .p (.mov (.t 13)), none⟩,
    ⟨some 5, .p (.mov (.t 15)), none⟩] [0, 2, 4, 5, 13])
  c_digest_Parse_k2))
  (.ops [⟨some 42, .p (.bin 3 .add (.t 13) (.c (.int .i64 ((1 : Nat) : Int)))), none⟩,
    ⟨some 13, .p (.mov (.t 42)), none⟩] [0, 2, 4, 13])) Q e H := by_refl rfl
theorem u_digest_Parse_k4_e {P : Program} {Q : VEx → Env → List Ob → Prop} {e : Env} {H : List Ob} : vwp P c_digest_Parse_k4 Q e H = vwp P (.seq (.cond (.t 14)
  (.skip)
  (.exit 0))
  c_digest_Parse_k3) Q e H := by_refl rfl
theorem u_digest_Parse_L5_e {P : Program} {Q : VEx → Env → List Ob → Prop} {e : Env} {H : List Ob} : vwp P c_digest_Parse_L5 Q e H = vwp P (.seq (.ops [⟨some 14, .p (.bin 3 .lss (.t 13) (.c (.int .i64 ((20 : Nat) : Int)))), none⟩] [0, 2, 4, 13, 14])
  c_digest_Parse_k4) Q e H := by_refl rfl
theorem u_digest_Parse_k6_e {P : Program} {Q : VEx → Env → List Ob → Prop} {e : Env} {H : List Ob} : vwp P c_digest_Parse_k6 Q e H = vwp P (.block 0 (.loop [0, 2, 4, 13] c_digest_Parse_L5)) Q e H := by_refl rfl
theorem u_digest_Parse_k7_e {P : Program} {Q : VEx → Env → List Ob → Prop} {e : Env} {H : List Ob} : vwp P c_digest_Parse_k7 Q e H = vwp P (.seq (.ops [⟨some 43, .p (.load true 20 (.t 4)), none⟩,
    ⟨none, .s (.store 20 (.t 2) (.t 43)), none⟩,
    ⟨some 3, .p (.mov (.c .nilIface)), none⟩] [2, 3])
  (.ret)) Q e H := by_refl rfl
theorem u_digest_Parse_k8_e {P : Program} {Q : VEx → Env → List Ob → Prop} {e : Env} {H : List Ob} : vwp P c_digest_Parse_k8 Q e H = vwp P (.seq (.seq (.ops [⟨some 13, .p (.mov (.c (.int .i64 ((0 : Nat) : Int)))), none⟩] [0, 2, 4, 13])
  c_digest_Parse_k6)
  c_digest_Parse_k7) Q e H := by_refl rfl
theorem u_digest_Parse_k9_e {P : Program} {Q : VEx → Env → List Ob → Prop} {e : Env} {H : List Ob} : vwp P c_digest_Parse_k9 Q e H = vwp P (.seq (.seq (.ops [⟨some 8, .p (.mov (.t 0)), none⟩,
    ⟨some 9, .p (.lenS (.t 8)), none⟩,
    ⟨some 10, .p (.bin 3 .neq (.t 9) (.c (.int .i64 ((40 : Nat) : Int)))), none⟩] [0, 2, 4, 10])
  (.cond (.t 10)
  (.seq (.ops [⟨some 11, .p (.load true 20 (.t 4)), none⟩,
      ⟨some 12, .p (.iface 30 (.c (.int .i64 ((12 : Nat) : Int)))), none⟩,
      ⟨none, .s (.store 20 (.t 2) (.t 11)), none⟩,
      ⟨some 3, .p (.mov (.t 12)), none⟩] [2, 3])
    (.ret))
  (.skip)))
  c_digest_Parse_k8) Q e H := by_refl rfl
theorem u_digest_Parse_k10_e {P : Program} {Q : VEx → Env → List Ob → Prop} {e : Env} {H : List Ob} : vwp P c_digest_Parse_k10 Q e H = vwp P (.seq (.ops [⟨some 4, .s (.alloc (.arr 20 1 [.val (.int .u8 ((0 : Nat) : Int)), .val (.int .u8 ((0 : Nat) : Int)), .val (.int .u8 ((0 : Nat) : Int)), .val (.int .u8 ((0 : Nat) : Int)), .val (.int .u8 ((0 : Nat) : Int)), .val (.int .u8 ((0 : Nat) : Int)), .val (.int .u8 ((0 : Nat) : Int)), .val (.int .u8 ((0 : Nat) : Int)), .val (.int .u8 ((0 : Nat) : Int)), .val (.int .u8 ((0 : Nat) : Int)), .val (.int .u8 ((0 : Nat) : Int)), .val (.int .u8 ((0 : Nat) : Int)), .val (.int .u8 ((0 : Nat) : Int)), .val (.int .u8 ((0 : Nat) : Int)), .val (.int .u8 ((0 : Nat) : Int)), .val (.int .u8 ((0 : Nat) : Int)), .val (.int .u8 ((0 : Nat) : Int)), .val (.int .u8 ((0 : Nat) : Int)), .val (.int .u8 ((0 : Nat) : Int)), .val (.int .u8 ((0 : Nat) : Int))])), none⟩] [0, 2, 4])
  c_digest_Parse_k9) Q e H := by_refl rfl
theorem u_digest_Parse_e {P : Program} {Q : VEx → Env → List Ob → Prop} {e : Env} {H : List Ob} : vwp P c_digest_Parse Q e H = vwp P (.seq (.ops [⟨some 2, .s (.alloc (.arr 20 1 [.val (.int .u8 ((0 : Nat) : Int)), .val (.int .u8 ((0 : Nat) : Int)), .val (.int .u8 ((0 : Nat) : Int)), .val (.int .u8 ((0 : Nat) : Int)), .val (.int .u8 ((0 : Nat) : Int)), .val (.int .u8 ((0 : Nat) : Int)), .val (.int .u8 ((0 : Nat) : Int)), .val (.int .u8 ((0 : Nat) : Int)), .val (.int .u8 ((0 : Nat) : Int)), .val (.int .u8 ((0 : Nat) : Int)), .val (.int .u8 ((0 : Nat) : Int)), .val (.int .u8 ((0 : Nat) : Int)), .val (.int .u8 ((0 : Nat) : Int)), .val (.int .u8 ((0 : Nat) : Int)), .val (.int .u8 ((0 : Nat) : Int)), .val (.int .u8 ((0 : Nat) : Int)), .val (.int .u8 ((0 : Nat) : Int)), .val (.int .u8 ((0 : Nat) : Int)), .val (.int .u8 ((0 : Nat) : Int)), .val (.int .u8 ((0 : Nat) : Int))])), none⟩,
    ⟨some 3, .p (.mov (.c .nilIface)), none⟩] [0, 2])
  c_digest_Parse_k10) Q e H := by_refl rfl
theorem u_digest_Parse_r {K : TV → Prop} {e : Env} {H : List Ob} : res r_digest_Parse e H K = res [.cell 2 true 20, .tmp 3] e H K := by_refl rfl
def u_digest_Parse := (And.intro (And.intro (And.intro (And.intro @u_digest_Parse_k1_e @u_digest_Parse_k2_e) (And.intro @u_digest_Parse_k3_e @u_digest_Parse_k4_e)) (And.intro (And.intro @u_digest_Parse_L5_e @u_digest_Parse_k6_e) (And.intro @u_digest_Parse_k7_e @u_digest_Parse_k8_e))) (And.intro (And.intro @u_digest_Parse_k9_e @u_digest_Parse_k10_e) (And.intro @u_digest_Parse_e @u_digest_Parse_r)))
theorem go_digest_Parse {args : List TV} {H : List Ob} {R : TV → List Ob → Prop} (hn : args.length ≤ 44) (h : vwp Tryd.prog c_digest_Parse (atEnd r_digest_Parse R) (argsE 0 args) H) : VCalls Tryd.prog 15 args H R := vcalls_of Tryd.func15 t_digest_Parse w_digest_Parse hn h

/-! gitlike/gitlikeref2.Parse -/
def c_ref2_Parse_b1 : VCode := .seq (.ops [⟨some 30, .p (.mov (.t 6)), none⟩,
    ⟨some 31, .p (.bin 5 .geq (.t 30) (.c (.int .u8 ((97 : Nat) : Int)))), none⟩,
    ⟨some 32, .p (.mov (.t 31)), none⟩,
    ⟨some 33, .p (.mov (.t 6)), some ⟨32, true⟩⟩,
    ⟨some 34, .p (.bin 5 .leq (.t 33) (.c (.int .u8 ((102 : Nat) : Int)))), some ⟨32, true⟩⟩,
    ⟨some 35, .p (.pick (.t 32) (.t 34) (.c (.bool false))), none⟩,
    ⟨some 29, .p (.mov (.t 35)), none⟩] [0, 2, 4, 5, 6, 29])
  (.cond (.t 29)
  (.ops [⟨some 36, .p (.mov (.t 6)), none⟩,
      ⟨some 37, .p (.bin 5 .sub (.t 36) (.c (.int .u8 ((97 : Nat) : Int)))), none⟩,
      ⟨some 38, .p (.bin 5 .add (.t 37) (.c (.int .u8 ((10 : Nat) : Int)))), none⟩,
      ⟨some 7, .p (.mov (.t 38)), none⟩] [0, 2, 4, 5, 7])
  (.seq (.ops [⟨some 19, .p (.buildA 20 1 [.val (.int .u8 ((0 : Nat) : Int)), .val (.int .u8 ((0 : Nat) : Int)), .val (.int .u8 ((0 : Nat) : Int)), .val (.int .u8 ((0 : Nat) : Int)), .val (.int .u8 ((0 : Nat) : Int)), .val (.int .u8 ((0 : Nat) : Int)), .val (.int .u8 ((0 : Nat) : Int)), .val (.int .u8 ((0 : Nat) : Int)), .val (.int .u8 ((0 : Nat) : Int)), .val (.int .u8 ((0 : Nat) : Int)), .val (.int .u8 ((0 : Nat) : Int)), .val (.int .u8 ((0 : Nat) : Int)), .val (.int .u8 ((0 : Nat) : Int)), .val (.int .u8 ((0 : Nat) : Int)), .val (.int .u8 ((0 : Nat) : Int)), .val (.int .u8 ((0 : Nat) : Int)), .val (.int .u8 ((0 : Nat) : Int)), .val (.int .u8 ((0 : Nat) : Int)), .val (.int .u8 ((0 : Nat) : Int)), .val (.int .u8 ((0 : Nat) : Int))] []), none⟩,
      ⟨none, .s (.store 20 (.t 2) (.t 19)), none⟩,
      ⟨some 3, .p (.mov (.c (.bool false))), none⟩] [2, 3])
    (.ret)))
def c_ref2_Parse_k2 : VCode := .cond (.t 20)
  (.ops [⟨some 27, .p (.mov (.t 6)), none⟩,
      ⟨some 28, .p (.bin 5 .sub (.t 27) (.c (.int .u8 ((48 : Nat) : Int)))), none⟩,
      ⟨some 7, .p (.mov (.t 28)), none⟩] [0, 2, 4, 5, 7])
  c_ref2_Parse_b1
def c_ref2_Parse_k3 : VCode := .seq (.block 2 (.seq (.ops [⟨some 21, .p (.mov (.t 6)), none⟩,
    ⟨some 22, .p (.bin 5 .geq (.t 21) (.c (.int .u8 ((48 : Nat) : Int)))), none⟩,
    ⟨some 23, .p (.mov (.t 22)), none⟩,
    ⟨some 24, .p (.mov (.t 6)), some ⟨23, true⟩⟩,
    ⟨some 25, .p (.bin 5 .leq (.t 24) (.c (.int .u8 ((57 : Nat) : Int)))), some ⟨23, true⟩⟩,
    ⟨some 26, .p (.pick (.t 23) (.t 25) (.c (.bool false))), none⟩,
    ⟨some 20, .p (.mov (.t 26)), none⟩] [0, 2, 4, 5, 6, 20])
  c_ref2_Parse_k2))
  (.ops [⟨some 39, .p (.mov (.t 5)), none⟩,
    ⟨some 40, .p (.bin 3 .quo (.t 39) (.c (.int .i64 ((2 : Nat) : Int)))), none⟩,
    ⟨some 41, .p (.mov (.t 5)), none⟩,
    ⟨some 42, .p (.bin 3 .quo (.t 41) (.c (.int .i64 ((2 : Nat) : Int)))), none⟩,
    ⟨some 43, .p (.idxAA 20 1 (.t 4) (.t 42)), none⟩,
    ⟨some 44, .p (.load false 1 (.t 43)), none⟩,
    ⟨some 45, .p (.bin 5 .mul (.t 44) (.c (.int .u8 ((16 : Nat) : Int)))), none⟩,
    ⟨some 46, .p (.mov (.t 7)), none⟩,
    ⟨some 47, .p (.bin 5 .add (.t 45) (.t 46)), none⟩,
    ⟨some 48, .p (.idxAA 20 1 (.t 4) (.t 40)), none⟩,
    ⟨none, .s (.store 1 (.t 48) (.t 47)), none⟩] [0, 2, 4, 5])
def c_ref2_Parse_k4 : VCode := .seq (.ops [⟨some 7, .p (.mov (.c (.int .u8 ((0 : Nat) : Int)))), none⟩] [0, 2, 4, 5, 6])
  c_ref2_Parse_k3
def c_ref2_Parse_k5 : VCode := .seq (.block 1 (.seq (.ops [⟨some 16, .p (.mov (.t 0)), none⟩,
    ⟨some 17, .p (.mov (.t 5)), none⟩,
    ⟨some 18, .p (.idxS (.t 16) (.t 17)), none⟩,
    ⟨some 6, .p (.mov (.t 18)), none⟩] [0, 2, 4, 5, 6])
  c_ref2_Parse_k4))
  (.ops [⟨some 14, .p (.mov (.t 5)), none⟩,
    ⟨some 15, .p (.bin 3 .add (.t 14) (.c (.int .i64 ((1 : Nat) : Int)))), none⟩,
    ⟨some 5, .p (.mov (.t 15)), none⟩] [0, 2, 4, 5])
def c_ref2_Parse_L6 : VCode := .seq (.seq (.ops [⟨some 12, .p (.mov (.t 5)), none⟩,
    ⟨some 13, .p (.bin 3 .lss (.t 12) (.c (.int .i64 ((40 : Nat) : Int)))), none⟩] [0, 2, 4, 5, 13])
  (.cond (.t 13)
  (.skip)
  (.exit 0)))
  c_ref2_Parse_k5
def c_ref2_Parse_k7 : VCode := .block 0 (.loop [0, 2, 4, 5] c_ref2_Parse_L6)
def c_ref2_Parse_k8 : VCode := .seq (.ops [⟨some 49, .p (.load true 20 (.t 4)), none⟩,
    ⟨none, .s (.store 20 (.t 2) (.t 49)), none⟩,
    ⟨some 3, .p (.mov (.c (.bool true))), none⟩] [2, 3])
  (.ret)
def c_ref2_Parse_k9 : VCode := .seq (.seq (.ops [⟨some 5, .p (.mov (.c (.int .i64 ((0 : Nat) : Int)))), none⟩] [0, 2, 4, 5])
  c_ref2_Parse_k7)
  c_ref2_Parse_k8
def c_ref2_Parse_k10 : VCode := .seq (.seq (.ops [⟨some 8, .p (.mov (.t 0)), none⟩,
    ⟨some 9, .p (.lenS (.t 8)), none⟩,
    ⟨some 10, .p (.bin 3 .neq (.t 9) (.c (.int .i64 ((40 : Nat) : Int)))), none⟩] [0, 2, 4, 10])
  (.cond (.t 10)
  (.seq (.ops [⟨some 11, .p (.load true 20 (.t 4)), none⟩,
      ⟨none, .s (.store 20 (.t 2) (.t 11)), none⟩,
      ⟨some 3, .p (.mov (.c (.bool false))), none⟩] [2, 3])
    (.ret))
  (.skip)))
  c_ref2_Parse_k9
def c_ref2_Parse_k11 : VCode := .seq (.ops [⟨some 4, .s (.alloc (.arr 20 1 [.val (.int .u8 ((0 : Nat) : Int)), .val (.int .u8 ((0 : Nat) : Int)), .val (.int .u8 ((0 : Nat) : Int)), .val (.int .u8 ((0 : Nat) : Int)), .val (.int .u8 ((0 : Nat) : Int)), .val (.int .u8 ((0 : Nat) : Int)), .val (.int .u8 ((0 : Nat) : Int)), .val (.int .u8 ((0 : Nat) : Int)), .val (.int .u8 ((0 : Nat) : Int)), .val (.int .u8 ((0 : Nat) : Int)), .val (.int .u8 ((0 : Nat) : Int)), .val (.int .u8 ((0 : Nat) : Int)), .val (.int .u8 ((0 : Nat) : Int)), .val (.int .u8 ((0 : Nat) : Int)), .val (.int .u8 ((0 : Nat) : Int)), .val (.int .u8 ((0 : Nat) : Int)), .val (.int .u8 ((0 : Nat) : Int)), .val (.int .u8 ((0 : Nat) : Int)), .val (.int .u8 ((0 : Nat) : Int)), .val (.int .u8 ((0 : Nat) : Int))])), none⟩] [0, 2, 4])
  c_ref2_Parse_k10
def c_ref2_Parse : VCode := .seq (.ops [⟨some 2, .s (.alloc (.arr 20 1 [.val (.int .u8 ((0 : Nat) : Int)), .val (.int .u8 ((0 : Nat) : Int)), .val (.int .u8 ((0 : Nat) : Int)), .val (.int .u8 ((0 : Nat) : Int)), .val (.int .u8 ((0 : Nat) : Int)), .val (.int .u8 ((0 : Nat) : Int)), .val (.int .u8 ((0 : Nat) : Int)), .val (.int .u8 ((0 : Nat) : Int)), .val (.int .u8 ((0 : Nat) : Int)), .val (.int .u8 ((0 : Nat) : Int)), .val (.int .u8 ((0 : Nat) : Int)), .val (.int .u8 ((0 : Nat) : Int)), .val (.int .u8 ((0 : Nat) : Int)), .val (.int .u8 ((0 : Nat) : Int)), .val (.int .u8 ((0 : Nat) : Int)), .val (.int .u8 ((0 : Nat) : Int)), .val (.int .u8 ((0 : Nat) : Int)), .val (.int .u8 ((0 : Nat) : Int)), .val (.int .u8 ((0 : Nat) : Int)), .val (.int .u8 ((0 : Nat) : Int))])), none⟩,
    ⟨some 3, .p (.mov (.c (.bool false))), none⟩] [0, 2])
  c_ref2_Parse_k11
def r_ref2_Parse : List VR := [.cell 2 true 20, .tmp 3]
theorem t_ref2_Parse : Tryd.f16.body.bind (trC Tryd.prog Tryd.f16.ntmps) = some (er c_ref2_Parse) := by kernel_rfl
theorem w_ref2_Parse : trR Tryd.prog Tryd.f16.results.toList = some r_ref2_Parse := by kernel_rfl
theorem u_ref2_Parse_b1_e {P : Program} {Q : VEx → Env → List Ob → Prop} {e : Env} {H : List Ob} : vwp P c_ref2_Parse_b1 Q e H = vwp P (.seq (.ops [⟨some 30, .p (.mov (.t 6)), none⟩,
    ⟨some 31, .p (.bin 5 .geq (.t 30) (.c (.int .u8 ((97 : Nat) : Int)))), none⟩,
    ⟨some 32, .p (.mov (.t 31)), none⟩,
    ⟨some 33, .p (.mov (.t 6)), some ⟨32, true⟩⟩,
    ⟨some 34, .p (.bin 5 .leq (.t 33) (.c (.int .u8 ((102 : Nat) : Int)))), some ⟨32, true⟩⟩,
    ⟨some 35, .p (.pick (.t 32) (.t 34) (.c (.bool false))), none⟩,
    ⟨some 29, .p (.mov (.t 35)), none⟩] [0, 2, 4, 5, 6, 29])
  (.cond (.t 29)
  (.ops [⟨some 36, .p (.mov (.t 6)), none⟩,
      ⟨some 37, .p (.bin 5 .sub (.t 36) (.c (.int .u8 ((97 : Nat) : Int)))), none⟩,
      ⟨some 38, .p (.bin 5 .add (.t 37) (.c (.int .u8 ((10 : Nat) : Int)))), none⟩,
      ⟨some 7, .p (.mov (.t 38)), none⟩] [0, 2, 4, 5, 7])
  (.seq (.ops [⟨some 19, .p (.buildA 20 1 [.val (.int .u8 ((0 : Nat) : Int)), .val (.int .u8 ((0 : Nat) : Int)), .val (.int .u8 ((0 : Nat) : Int)), .val (.int .u8 ((0 : Nat) : Int)), .val (.int .u8 ((0 : Nat) : Int)), .val (.int .u8 ((0 : Nat) : Int)), .val (.int .u8 ((0 : Nat) : Int)), .val (.int .u8 ((0 : Nat) : Int)), .val (.int .u8 ((0 : Nat) : Int)), .val (.int .u8 ((0 : Nat) : Int)), .val (.int .u8 ((0 : Nat) : Int)), .val (.int .u8 ((0 : Nat) : Int)), .val (.int .u8 ((0 : Nat) : Int)), .val (.int .u8 ((0 : Nat) : Int)), .val (.int .u8 ((0 : Nat) : Int)), .val (.int .u8 ((0 : Nat) : Int)), .val (.int .u8 ((0 : Nat) : Int)), .val (.int .u8 ((0 : Nat) : Int)), .val (.int .u8 ((0 : Nat) : Int)), .val (.int .u8 ((0 : Nat) : Int))] []), none⟩,
      ⟨none, .s (.store 20 (.t 2) (.t 19)), none⟩,
      ⟨some 3, .p (.mov (.c (.bool false))), none⟩] [2, 3])
    (.ret)))) Q e H := by_refl rfl
theorem u_ref2_Parse_k2_e {P : Program} {Q : VEx → Env → List Ob → Prop} {e : Env} {H : List Ob} : vwp P c_ref2_Parse_k2 Q e H = vwp P (.cond (.t 20)
  (.ops [⟨some 27, .p (.mov (.t 6)), none⟩,
      ⟨some 28, .p (.bin 5 .sub (.t 27) (.c (.int .u8 ((48 : Nat) : Int)))), none⟩,
      ⟨some 7, .p (.mov (.t 28)), none⟩] [0, 2, 4, 5, 7])
  c_ref2_Parse_b1) Q e H := by_refl rfl
theorem u_ref2_Parse_k3_e {P : Program} {Q : VEx → Env → List Ob → Prop} {e : Env} {H : List Ob} : vwp P c_ref2_Parse_k3 Q e H = vwp P (.seq (.block 2 (.seq (.ops [⟨some 21, .p (.mov (.t 6)), none⟩,
    ⟨some 22, .p (.bin 5 .geq (.t 21) (.c (.int .u8 ((48 : Nat) : Int)))), none⟩,
    ⟨some 23, .p (.mov (.t 22)), none⟩,
    ⟨some 24, .p (.mov (.t 6)), some ⟨23, true⟩⟩,
    ⟨some 25, .p (.bin 5 .leq (.t 24) (.c (.int .u8 ((57 : Nat) : Int)))), some ⟨23, true⟩⟩,
    ⟨some 26, .p (.pick (.t 23) (.t 25) (.c (.bool false))), none⟩,
    ⟨some 20, .p (.mov (.t 26)), none⟩] [0, 2, 4, 5, 6, 20])
  c_ref2_Parse_k2))
  (.ops [⟨some 39, .p (.mov (.t 5)), none⟩,
    ⟨some 40, .p (.bin 3 .quo (.t 39) (.c (.int .i64 ((2 : Nat) : Int)))), none⟩,
    ⟨some 41, .p (.mov (.t 5)), none⟩,
    ⟨some 42, .p (.bin 3 .quo (.t 41) (.c (.int .i64 ((2 : Nat) : Int)))), none⟩,
    ⟨some 43, .p (.idxAA 20 1 (.t 4) (.t 42)), none⟩,
    ⟨some 44, .p (.load false 1 (.t 43)), none⟩,
    ⟨some 45, .p (.bin 5 .mul (.t 44) (.c (.int .u8 ((16 : Nat) : Int)))), none⟩,
    ⟨some 46, .p (.mov (.t 7)), none⟩,
    ⟨some 47, .p (.bin 5 .add (.t 45) (.t 46)), none⟩,
    ⟨some 48, .p (.idxAA 20 1 (.t 4) (.t 40)), none⟩,
    ⟨none, .s (.store 1 (.t 48) (.t 47)), none⟩] [0, 2, 4, 5])) Q e H := by_refl rfl
theorem u_ref2_Parse_k4_e {P : Program} {Q : VEx → Env → List Ob → Prop} {e : Env} {H : List Ob} : vwp P c_ref2_Parse_k4 Q e H = vwp P (.seq (.ops [⟨some 7, .p (.mov (.c (.int .u8 ((0 : Nat) : Int)))), none⟩] [0, 2, 4, 5, 6])
  c_ref2_Parse_k3) Q e H := by_refl rfl
theorem u_ref2_Parse_k5_e {P : Program} {Q : VEx → Env → List Ob → Prop} {e : Env} {H : List Ob} : vwp P c_ref2_Parse_k5 Q e H = vwp P (.seq (.block 1 (.seq (.ops [⟨some 16, .p (.mov (.t 0)), none⟩,
    ⟨some 17, .p (.mov (.t 5)), none⟩,
    ⟨some 18, .p (.idxS (.t 16) (.t 17)), none⟩,
    ⟨some 6, .p (.mov (.t 18)), none⟩] [0, 2, 4, 5, 6])
  c_ref2_Parse_k4))
  (.ops [⟨some 14, .p (.mov (.t 5)), none⟩,
    ⟨some 15, .p (.bin 3 .add (.t 14) (.c (.int .i64 ((1 : Nat) : Int)))), none⟩,
    ⟨some 5, .p (.mov (.t 15)), none⟩] [0, 2, 4, 5])) Q e H := by_refl rfl
theorem u_ref2_Parse_L6_e {P : Program} {Q : VEx → Env → List Ob → Prop} {e : Env} {H : List Ob} : vwp P c_ref2_Parse_L6 Q e H = vwp P (.seq (.seq (.ops [⟨some 12, .p (.mov (.t 5)), none⟩,
    ⟨some 13, .p (.bin 3 .lss (.t 12) (.c (.int .i64 ((40 : Nat) : Int)))), none⟩] [0, 2, 4, 5, 13])
  (.cond (.t 13)
  (.skip)
  (.exit 0)))
  c_ref2_Parse_k5) Q e H := by_refl rfl
theorem u_ref2_Parse_k7_e {P : Program} {Q : VEx → Env → List Ob → Prop} {e : Env} {H : List Ob} : vwp P c_ref2_Parse_k7 Q e H = vwp P (.block 0 (.loop [0, 2, 4, 5] c_ref2_Parse_L6)) Q e H := by_refl rfl
theorem u_ref2_Parse_k8_e {P : Program} {Q : VEx → Env → List Ob → Prop} {e : Env} {H : List Ob} : vwp P c_ref2_Parse_k8 Q e H = vwp P (.seq (.ops [⟨some 49, .p (.load true 20 (.t 4)), none⟩,
    ⟨none, .s (.store 20 (.t 2) (.t 49)), none⟩,
    ⟨some 3, .p (.mov (.c (.bool true))), none⟩] [2, 3])
  (.ret)) Q e H := by_refl rfl
theorem u_ref2_Parse_k9_e {P : Program} {Q : VEx → Env → List Ob → Prop} {e : Env} {H : List Ob} : vwp P c_ref2_Parse_k9 Q e H = vwp P (.seq (.seq (.ops [⟨some 5, .p (.mov (.c (.int .i64 ((0 : Nat) : Int)))), none⟩] [0, 2, 4, 5])
  c_ref2_Parse_k7)
  c_ref2_Parse_k8) Q e H := by_refl rfl
theorem u_ref2_Parse_k10_e {P : Program} {Q : VEx → Env → List Ob → Prop} {e : Env} {H : List Ob} : vwp P c_ref2_Parse_k10 Q e H = vwp P (.seq (.seq (.ops [⟨some 8, .p (.mov (.t 0)), none⟩,
    ⟨some 9, .p (.lenS (.t 8)), none⟩,
    ⟨some 10, .p (.bin 3 .neq (.t 9) (.c (.int .i64 ((40 : Nat) : Int)))), none⟩] [0, 2, 4, 10])
  (.cond (.t 10)
  (.seq (.ops [⟨some 11, .p (.load true 20 (.t 4)), none⟩,
      ⟨none, .s (.store 20 (.t 2) (.t 11)), none⟩,
      ⟨some 3, .p (.mov (.c (.bool false))), none⟩] [2, 3])
    (.ret))
  (.skip)))
  c_ref2_Parse_k9) Q e H := by_refl rfl
theorem u_ref2_Parse_k11_e {P : Program} {Q : VEx → Env → List Ob → Prop} {e : Env} {H : List Ob} : vwp P c_ref2_Parse_k11 Q e H = vwp P (.seq (.ops [⟨some 4, .s (.alloc (.arr 20 1 [.val (.int .u8 ((0 : Nat) : Int)), .val (.int .u8 ((0 : Nat) : Int)), .val (.int .u8 ((0 : Nat) : Int)), .val (.int .u8 ((0 : Nat) : Int)), .val (.int .u8 ((0 : Nat) : Int)), .val (.int .u8 ((0 : Nat) : Int)), .val (.int .u8 ((0 : Nat) : Int)), .val (.int .u8 ((0 : Nat) : Int)), .val (.int .u8 ((0 : Nat) : Int)), .val (.int .u8 ((0 : Nat) : Int)), .val (.int .u8 ((0 : Nat) : Int)), .val (.int .u8 ((0 : Nat) : Int)), .val (.int .u8 ((0 : Nat) : Int)), .val (.int .u8 ((0 : Nat) : Int)), .val (.int .u8 ((0 : Nat) : Int)), .val (.int .u8 ((0 : Nat) : Int)), .val (.int .u8 ((0 : Nat) : Int)), .val (.int .u8 ((0 : Nat) : Int)), .val (.int .u8 ((0 : Nat) : Int)), .val (.int .u8 ((0 : Nat) : Int))])), none⟩] [0, 2, 4])
  c_ref2_Parse_k10) Q e H := by_refl rfl
theorem u_ref2_Parse_e {P : Program} {Q : VEx → Env → List Ob → Prop} {e : Env} {H : List Ob} : vwp P c_ref2_Parse Q e H = vwp P (.seq (.ops [⟨some 2, .s (.alloc (.arr 20 1 [.val (.int .u8 ((0 : Nat) : Int)), .val (.int .u8 ((0 : Nat) : Int)), .val (.int .u8 ((0 : Nat) : Int)), .val (.int .u8 ((0 : Nat) : Int)), .val (.int .u8 ((0 : Nat) : Int)), .val (.int .u8 ((0 : Nat) : Int)), .val (.int .u8 ((0 : Nat) : Int)), .val (.int .u8 ((0 : Nat) : Int)), .val (.int .u8 ((0 : Nat) : Int)), .val (.int .u8 ((0 : Nat) : Int)), .val (.int .u8 ((0 : Nat) : Int)), .val (.int .u8 ((0 : Nat) : Int)), .val (.int .u8 ((0 : Nat) : Int)), .val (.int .u8 ((0 : Nat) : Int)), .val (.int .u8 ((0 : Nat) : Int)), .val (.int .u8 ((0 : Nat) : Int)), .val (.int .u8 ((0 : Nat) : Int)), .val (.int .u8 ((0 : Nat) : Int)), .val (.int .u8 ((0 : Nat) : Int)), .val (.int .u8 ((0 : Nat) : Int))])), none⟩,
    ⟨some 3, .p (.mov (.c (.bool false))), none⟩] [0, 2])
  c_ref2_Parse_k11) Q e H := by_refl rfl
theorem u_ref2_Parse_r {K : TV → Prop} {e : Env} {H : List Ob} : res r_ref2_Parse e H K = res [.cell 2 true 20, .tmp 3] e H K := by_refl rfl
def u_ref2_Parse := (And.intro (And.intro (And.intro (And.intro @u_ref2_Parse_b1_e @u_ref2_Parse_k2_e) (And.intro @u_ref2_Parse_k3_e @u_ref2_Parse_k4_e)) (And.intro (And.intro @u_ref2_Parse_k5_e @u_ref2_Parse_L6_e) (And.intro @u_ref2_Parse_k7_e @u_ref2_Parse_k8_e))) (And.intro (And.intro (And.intro @u_ref2_Parse_k9_e @u_ref2_Parse_k10_e) (And.intro @u_ref2_Parse_k11_e @u_ref2_Parse_e)) @u_ref2_Parse_r))
theorem go_ref2_Parse {args : List TV} {H : List Ob} {R : TV → List Ob → Prop} (hn : args.length ≤ 50) (h : vwp Tryd.prog c_ref2_Parse (atEnd r_ref2_Parse R) (argsE 0 args) H) : VCalls Tryd.prog 16 args H R := vcalls_of Tryd.func16 t_ref2_Parse w_ref2_Parse hn h

/-! gitlike/gitlikelaw2.DigestHexes -/
def c_law2_DigestHexes_k1 : VCode := .seq (.ops [⟨some 49, .p (.load true 20 (.t 9)), none⟩,
    ⟨some 50, .p (.load true 20 (.t 11)), none⟩,
    ⟨some 51, .p (.gen (.eqA 20 false) [.t 49, .t 50]), none⟩,
    ⟨some 52, .p (.mov (.t 51)), none⟩,
    ⟨some 53, .p (.mov (.t 13)), some ⟨52, true⟩⟩,
    ⟨some 54, .p (.bin 30 .eql (.t 53) (.c (.int .i64 ((0 : Nat) : Int)))), some ⟨52, true⟩⟩,
    ⟨some 55, .p (.mov (.t 54)), some ⟨52, true⟩⟩,
    ⟨some 56, .p (.mov (.t 12)), some ⟨55, true⟩⟩,
    ⟨some 57, .p (.pick (.t 55) (.t 56) (.c (.bool false))), some ⟨52, true⟩⟩,
    ⟨some 58, .p (.mov (.t 57)), some ⟨52, true⟩⟩,
    ⟨some 59, .p (.mov (.t 13)), some ⟨58, false⟩⟩,
    ⟨some 60, .p (.bin 30 .eql (.t 59) (.c (.int .i64 ((12 : Nat) : Int)))), some ⟨58, false⟩⟩,
    ⟨some 61, .p (.mov (.t 60)), some ⟨58, false⟩⟩,
    ⟨some 62, .p (.mov (.t 12)), some ⟨61, true⟩⟩,
    ⟨some 63, .p (.un .not (.t 62)), some ⟨61, true⟩⟩,
    ⟨some 64, .p (.pick (.t 61) (.t 63) (.c (.bool false))), some ⟨58, false⟩⟩,
    ⟨some 65, .p (.pick (.t 58) (.c (.bool true)) (.t 64)), some ⟨52, true⟩⟩,
    ⟨some 66, .p (.pick (.t 52) (.t 65) (.c (.bool false))), none⟩,
    ⟨some 4, .p (.mov (.t 66)), none⟩] [4])
  (.ret)
def c_law2_DigestHexes_k2 : VCode := .seq (.ops [⟨some 47, .p (.mov (.t 10)), none⟩,
    ⟨some 48, .s (.call 12 [.t 47]), none⟩,
    ⟨some 13, .p (.mov (.t 48)), none⟩] [9, 11, 12, 13])
  c_law2_DigestHexes_k1
def c_law2_DigestHexes_k3 : VCode := .seq (.ops [⟨some 43, .p (.mov (.t 1)), none⟩,
    ⟨some 44, .s (.call 16 [.t 43]), none⟩,
    ⟨some 42, .p (.mov (.t 44)), none⟩,
    ⟨some 45, .p (.ext 0 (.t 42)), none⟩,
    ⟨some 46, .p (.ext 1 (.t 42)), none⟩,
    ⟨some 11, .s (.alloc (.arr 20 1 [.val (.int .u8 ((0 : Nat) : Int)), .val (.int .u8 ((0 : Nat) : Int)), .val (.int .u8 ((0 : Nat) : Int)), .val (.int .u8 ((0 : Nat) : Int)), .val (.int .u8 ((0 : Nat) : Int)), .val (.int .u8 ((0 : Nat) : Int)), .val (.int .u8 ((0 : Nat) : Int)), .val (.int .u8 ((0 : Nat) : Int)), .val (.int .u8 ((0 : Nat) : Int)), .val (.int .u8 ((0 : Nat) : Int)), .val (.int .u8 ((0 : Nat) : Int)), .val (.int .u8 ((0 : Nat) : Int)), .val (.int .u8 ((0 : Nat) : Int)), .val (.int .u8 ((0 : Nat) : Int)), .val (.int .u8 ((0 : Nat) : Int)), .val (.int .u8 ((0 : Nat) : Int)), .val (.int .u8 ((0 : Nat) : Int)), .val (.int .u8 ((0 : Nat) : Int)), .val (.int .u8 ((0 : Nat) : Int)), .val (.int .u8 ((0 : Nat) : Int))])), none⟩,
    ⟨none, .s (.store 20 (.t 11) (.t 45)), none⟩,
    ⟨some 12, .p (.mov (.t 46)), none⟩] [9, 10, 11, 12])
  c_law2_DigestHexes_k2
def c_law2_DigestHexes_k4 : VCode := .seq (.ops [⟨some 38, .p (.mov (.t 1)), none⟩,
    ⟨some 39, .s (.call 15 [.t 38]), none⟩,
    ⟨some 37, .p (.mov (.t 39)), none⟩,
    ⟨some 40, .p (.ext 0 (.t 37)), none⟩,
    ⟨some 41, .p (.ext 1 (.t 37)), none⟩,
    ⟨some 9, .s (.alloc (.arr 20 1 [.val (.int .u8 ((0 : Nat) : Int)), .val (.int .u8 ((0 : Nat) : Int)), .val (.int .u8 ((0 : Nat) : Int)), .val (.int .u8 ((0 : Nat) : Int)), .val (.int .u8 ((0 : Nat) : Int)), .val (.int .u8 ((0 : Nat) : Int)), .val (.int .u8 ((0 : Nat) : Int)), .val (.int .u8 ((0 : Nat) : Int)), .val (.int .u8 ((0 : Nat) : Int)), .val (.int .u8 ((0 : Nat) : Int)), .val (.int .u8 ((0 : Nat) : Int)), .val (.int .u8 ((0 : Nat) : Int)), .val (.int .u8 ((0 : Nat) : Int)), .val (.int .u8 ((0 : Nat) : Int)), .val (.int .u8 ((0 : Nat) : Int)), .val (.int .u8 ((0 : Nat) : Int)), .val (.int .u8 ((0 : Nat) : Int)), .val (.int .u8 ((0 : Nat) : Int)), .val (.int .u8 ((0 : Nat) : Int)), .val (.int .u8 ((0 : Nat) : Int))])), none⟩,
    ⟨none, .s (.store 20 (.t 9) (.t 40)), none⟩,
    ⟨some 10, .p (.mov (.t 41)), none⟩] [1, 9, 10])
  c_law2_DigestHexes_k3
def c_law2_DigestHexes_k5 : VCode := .seq (.seq (.ops [⟨some 29, .p (.load true 20 (.t 7)), none⟩,
    ⟨some 30, .p (.load true 20 (.t 2)), none⟩,
    ⟨some 31, .p (.gen (.eqA 20 true) [.t 29, .t 30]), none⟩,
    ⟨some 32, .p (.mov (.t 31)), none⟩,
    ⟨some 33, .p (.mov (.t 8)), some ⟨32, false⟩⟩,
    ⟨some 34, .s (.call 12 [.t 33]), some ⟨32, false⟩⟩,
    ⟨some 35, .p (.bin 30 .neq (.t 34) (.c (.int .i64 ((0 : Nat) : Int)))), some ⟨32, false⟩⟩,
    ⟨some 36, .p (.pick (.t 32) (.c (.bool true)) (.t 35)), none⟩] [1, 36])
  (.cond (.t 36)
  (.seq (.ops [⟨some 4, .p (.mov (.c (.bool false))), none⟩] [4])
    (.ret))
  (.skip)))
  c_law2_DigestHexes_k4
def c_law2_DigestHexes_k6 : VCode := .seq (.ops [⟨some 25, .p (.mov (.t 5)), none⟩,
    ⟨some 26, .s (.call 15 [.t 25]), none⟩,
    ⟨some 24, .p (.mov (.t 26)), none⟩,
    ⟨some 27, .p (.ext 0 (.t 24)), none⟩,
    ⟨some 28, .p (.ext 1 (.t 24)), none⟩,
    ⟨some 7, .s (.alloc (.arr 20 1 [.val (.int .u8 ((0 : Nat) : Int)), .val (.int .u8 ((0 : Nat) : Int)), .val (.int .u8 ((0 : Nat) : Int)), .val (.int .u8 ((0 : Nat) : Int)), .val (.int .u8 ((0 : Nat) : Int)), .val (.int .u8 ((0 : Nat) : Int)), .val (.int .u8 ((0 : Nat) : Int)), .val (.int .u8 ((0 : Nat) : Int)), .val (.int .u8 ((0 : Nat) : Int)), .val (.int .u8 ((0 : Nat) : Int)), .val (.int .u8 ((0 : Nat) : Int)), .val (.int .u8 ((0 : Nat) : Int)), .val (.int .u8 ((0 : Nat) : Int)), .val (.int .u8 ((0 : Nat) : Int)), .val (.int .u8 ((0 : Nat) : Int)), .val (.int .u8 ((0 : Nat) : Int)), .val (.int .u8 ((0 : Nat) : Int)), .val (.int .u8 ((0 : Nat) : Int)), .val (.int .u8 ((0 : Nat) : Int)), .val (.int .u8 ((0 : Nat) : Int))])), none⟩,
    ⟨none, .s (.store 20 (.t 7) (.t 27)), none⟩,
    ⟨some 8, .p (.mov (.t 28)), none⟩] [1, 2, 7, 8])
  c_law2_DigestHexes_k5
def c_law2_DigestHexes_k7 : VCode := .seq (.seq (.ops [⟨some 21, .p (.mov (.t 5)), none⟩,
    ⟨some 22, .p (.mov (.t 6)), none⟩,
    ⟨some 23, .p (.bin 9 .neq (.t 21) (.t 22)), none⟩] [1, 2, 5, 23])
  (.cond (.t 23)
  (.seq (.ops [⟨some 4, .p (.mov (.c (.bool false))), none⟩] [4])
    (.ret))
  (.skip)))
  c_law2_DigestHexes_k6
def c_law2_DigestHexes_k8 : VCode := .seq (.ops [⟨some 19, .p (.load true 20 (.t 2)), none⟩,
    ⟨some 20, .s (.call 14 [.t 19]), none⟩,
    ⟨some 6, .p (.mov (.t 20)), none⟩] [1, 2, 5, 6])
  c_law2_DigestHexes_k7
def c_law2_DigestHexes_k9 : VCode := .seq (.ops [⟨some 17, .p (.load true 20 (.t 2)), none⟩,
    ⟨some 18, .s (.call 13 [.t 17]), none⟩,
    ⟨some 5, .p (.mov (.t 18)), none⟩] [1, 2, 5])
  c_law2_DigestHexes_k8
def c_law2_DigestHexes_k10 : VCode := .seq (.seq (.ops [⟨some 14, .p (.mov (.t 1)), none⟩,
    ⟨some 15, .p (.lenS (.t 14)), none⟩,
    ⟨some 16, .p (.bin 3 .gtr (.t 15) (.c (.int .i64 ((300000 : Nat) : Int)))), none⟩] [1, 2, 16])
  (.cond (.t 16)
  (.seq (.ops [⟨some 4, .p (.mov (.c (.bool true))), none⟩] [4])
    (.ret))
  (.skip)))
  c_law2_DigestHexes_k9
def c_law2_DigestHexes : VCode := .seq (.ops [⟨some 2, .s (.box (.t 0)), none⟩,
    ⟨some 4, .p (.mov (.c (.bool false))), none⟩] [1, 2])
  c_law2_DigestHexes_k10
def r_law2_DigestHexes : List VR := [.tmp 4]
theorem t_law2_DigestHexes : Tryd.f4.body.bind (trC Tryd.prog Tryd.f4.ntmps) = some (er c_law2_DigestHexes) := by kernel_rfl
theorem w_law2_DigestHexes : trR Tryd.prog Tryd.f4.results.toList = some r_law2_DigestHexes := by kernel_rfl
theorem u_law2_DigestHexes_k1_e {P : Program} {Q : VEx → Env → List Ob → Prop} {e : Env} {H : List Ob} : vwp P c_law2_DigestHexes_k1 Q e H = vwp P (.seq (.ops [⟨some 49, .p (.load true 20 (.t 9)), none⟩,
    ⟨some 50, .p (.load true 20 (.t 11)), none⟩,
    ⟨some 51, .p (.gen (.eqA 20 false) [.t 49, .t 50]), none⟩,
    ⟨some 52, .p (.mov (.t 51)), none⟩,
    ⟨some 53, .p (.mov (.t 13)), some ⟨52, true⟩⟩,
    ⟨some 54, .p (.bin 30 .eql (.t 53) (.c (.int .i64 ((0 : Nat) : Int)))), some ⟨52, true⟩⟩,
    ⟨some 55, .p (.mov (.t 54)), some ⟨52, true⟩⟩,
    ⟨some 56, .p (.mov (.t 12)), some ⟨55, true⟩⟩,
    ⟨some 57, .p (.pick (.t 55) (.t 56) (.c (.bool false))), some ⟨52, true⟩⟩,
    ⟨some 58, .p (.mov (.t 57)), some ⟨52, true⟩⟩,
    ⟨some 59, .p (.mov (.t 13)), some ⟨58, false⟩⟩,
    ⟨some 60, .p (.bin 30 .eql (.t 59) (.c (.int .i64 ((12 : Nat) : Int)))), some ⟨58, false⟩⟩,
    ⟨some 61, .p (.mov (.t 60)), some ⟨58, false⟩⟩,
    ⟨some 62, .p (.mov (.t 12)), some ⟨61, true⟩⟩,
    ⟨some 63, .p (.un .not (.t 62)), some ⟨61, true⟩⟩,
    ⟨some 64, .p (.pick (.t 61) (.t 63) (.c (.bool false))), some ⟨58, false⟩⟩,
    ⟨some 65, .p (.pick (.t 58) (.c (.bool true)) (.t 64)), some ⟨52, true⟩⟩,
    ⟨some 66, .p (.pick (.t 52) (.t 65) (.c (.bool false))), none⟩,
    ⟨some 4, .p (.mov (.t 66)), none⟩] [4])
  (.ret)) Q e H := by_refl rfl
theorem u_law2_DigestHexes_k2_e {P : Program} {Q : VEx → Env → List Ob → Prop} {e : Env} {H : List Ob} : vwp P c_law2_DigestHexes_k2 Q e H = vwp P (.seq (.ops [⟨some 47, .p (.mov (.t 10)), none⟩,
    ⟨some 48, .s (.call 12 [.t 47]), none⟩,
    ⟨some 13, .p (.mov (.t 48)), none⟩] [9, 11, 12, 13])
  c_law2_DigestHexes_k1) Q e H := by_refl rfl
theorem u_law2_DigestHexes_k3_e {P : Program} {Q : VEx → Env → List Ob → Prop} {e : Env} {H : List Ob} : vwp P c_law2_DigestHexes_k3 Q e H = vwp P (.seq (.ops [⟨some 43, .p (.mov (.t 1)), none⟩,
    ⟨some 44, .s (.call 16 [.t 43]), none⟩,
    ⟨some 42, .p (.mov (.t 44)), none⟩,
    ⟨some 45, .p (.ext 0 (.t 42)), none⟩,
    ⟨some 46, .p (.ext 1 (.t 42)), none⟩,
    ⟨some 11, .s (.alloc (.arr 20 1 [.val (.int .u8 ((0 : Nat) : Int)), .val (.int .u8 ((0 : Nat) : Int)), .val (.int .u8 ((0 : Nat) : Int)), .val (.int .u8 ((0 : Nat) : Int)), .val (.int .u8 ((0 : Nat) : Int)), .val (.int .u8 ((0 : Nat) : Int)), .val (.int .u8 ((0 : Nat) : Int)), .val (.int .u8 ((0 : Nat) : Int)), .val (.int .u8 ((0 : Nat) : Int)), .val (.int .u8 ((0 : Nat) : Int)), .val (.int .u8 ((0 : Nat) : Int)), .val (.int .u8 ((0 : Nat) : Int)), .val (.int .u8 ((0 : Nat) : Int)), .val (.int .u8 ((0 : Nat) : Int)), .val (.int .u8 ((0 : Nat) : Int)), .val (.int .u8 ((0 : Nat) : Int)), .val (.int .u8 ((0 : Nat) : Int)), .val (.int .u8 ((0 : Nat) : Int)), .val (.int .u8 ((0 : Nat) : Int)), .val (.int .u8 ((0 : Nat) : Int))])), none⟩,
    ⟨none, .s (.store 20 (.t 11) (.t 45)), none⟩,
    ⟨some 12, .p (.mov (.t 46)), none⟩] [9, 10, 11, 12])
  c_law2_DigestHexes_k2) Q e H := by_refl rfl
theorem u_law2_DigestHexes_k4_e {P : Program} {Q : VEx → Env → List Ob → Prop} {e : Env} {H : List Ob} : vwp P c_law2_DigestHexes_k4 Q e H = vwp P (.seq (.ops [⟨some 38, .p (.mov (.t 1)), none⟩,
    ⟨some 39, .s (.call 15 [.t 38]), none⟩,
    ⟨some 37, .p (.mov (.t 39)), none⟩,
    ⟨some 40, .p (.ext 0 (.t 37)), none⟩,
    ⟨some 41, .p (.ext 1 (.t 37)), none⟩,
    ⟨some 9, .s (.alloc (.arr 20 1 [.val (.int .u8 ((0 : Nat) : Int)), .val (.int .u8 ((0 : Nat) : Int)), .val (.int .u8 ((0 : Nat) : Int)), .val (.int .u8 ((0 : Nat) : Int)), .val (.int .u8 ((0 : Nat) : Int)), .val (.int .u8 ((0 : Nat) : Int)), .val (.int .u8 ((0 : Nat) : Int)), .val (.int .u8 ((0 : Nat) : Int)), .val (.int .u8 ((0 : Nat) : Int)), .val (.int .u8 ((0 : Nat) : Int)), .val (.int .u8 ((0 : Nat) : Int)), .val (.int .u8 ((0 : Nat) : Int)), .val (.int .u8 ((0 : Nat) : Int)), .val (.int .u8 ((0 : Nat) : Int)), .val (.int .u8 ((0 : Nat) : Int)), .val (.int .u8 ((0 : Nat) : Int)), .val (.int .u8 ((0 : Nat) : Int)), .val (.int .u8 ((0 : Nat) : Int)), .val (.int .u8 ((0 : Nat) : Int)), .val (.int .u8 ((0 : Nat) : Int))])), none⟩,
    ⟨none, .s (.store 20 (.t 9) (.t 40)), none⟩,
    ⟨some 10, .p (.mov (.t 41)), none⟩] [1, 9, 10])
  c_law2_DigestHexes_k3) Q e H := by_refl rfl
theorem u_law2_DigestHexes_k5_e {P : Program} {Q : VEx → Env → List Ob → Prop} {e : Env} {H : List Ob} : vwp P c_law2_DigestHexes_k5 Q e H = vwp P (.seq (.seq (.ops [⟨some 29, .p (.load true 20 (.t 7)), none⟩,
    ⟨some 30, .p (.load true 20 (.t 2)), none⟩,
    ⟨some 31, .p (.gen (.eqA 20 true) [.t 29, .t 30]), none⟩,
    ⟨some 32, .p (.mov (.t 31)), none⟩,
    ⟨some 33, .p (.mov (.t 8)), some ⟨32, false⟩⟩,
    ⟨some 34, .s (.call 12 [.t 33]), some ⟨32, false⟩⟩,
    ⟨some 35, .p (.bin 30 .neq (.t 34) (.c (.int .i64 ((0 : Nat) : Int)))), some ⟨32, false⟩⟩,
    ⟨some 36, .p (.pick (.t 32) (.c (.bool true)) (.t 35)), none⟩] [1, 36])
  (.cond (.t 36)
  (.seq (.ops [⟨some 4, .p (.mov (.c (.bool false))), none⟩] [4])
    (.ret))
  (.skip)))
  c_law2_DigestHexes_k4) Q e H := by_refl rfl
theorem u_law2_DigestHexes_k6_e {P : Program} {Q : VEx → Env → List Ob → Prop} {e : Env} {H : List Ob} : vwp P c_law2_DigestHexes_k6 Q e H = vwp P (.seq (.ops [⟨some 25, .p (.mov (.t 5)), none⟩,
    ⟨some 26, .s (.call 15 [.t 25]), none⟩,
    ⟨some 24, .p (.mov (.t 26)), none⟩,
    ⟨some 27, .p (.ext 0 (.t 24)), none⟩,
    ⟨some 28, .p (.ext 1 (.t 24)), none⟩,
    ⟨some 7, .s (.alloc (.arr 20 1 [.val (.int .u8 ((0 : Nat) : Int)), .val (.int .u8 ((0 : Nat) : Int)), .val (.int .u8 ((0 : Nat) : Int)), .val (.int .u8 ((0 : Nat) : Int)), .val (.int .u8 ((0 : Nat) : Int)), .val (.int .u8 ((0 : Nat) : Int)), .val (.int .u8 ((0 : Nat) : Int)), .val (.int .u8 ((0 : Nat) : Int)), .val (.int .u8 ((0 : Nat) : Int)), .val (.int .u8 ((0 : Nat) : Int)), .val (.int .u8 ((0 : Nat) : Int)), .val (.int .u8 ((0 : Nat) : Int)), .val (.int .u8 ((0 : Nat) : Int)), .val (.int .u8 ((0 : Nat) : Int)), .val (.int .u8 ((0 : Nat) : Int)), .val (.int .u8 ((0 : Nat) : Int)), .val (.int .u8 ((0 : Nat) : Int)), .val (.int .u8 ((0 : Nat) : Int)), .val (.int .u8 ((0 : Nat) : Int)), .val (.int .u8 ((0 : Nat) : Int))])), none⟩,
    ⟨none, .s (.store 20 (.t 7) (.t 27)), none⟩,
    ⟨some 8, .p (.mov (.t 28)), none⟩] [1, 2, 7, 8])
  c_law2_DigestHexes_k5) Q e H := by_refl rfl
theorem u_law2_DigestHexes_k7_e {P : Program} {Q : VEx → Env → List Ob → Prop} {e : Env} {H : List Ob} : vwp P c_law2_DigestHexes_k7 Q e H = vwp P (.seq (.seq (.ops [⟨some 21, .p (.mov (.t 5)), none⟩,
    ⟨some 22, .p (.mov (.t 6)), none⟩,
    ⟨some 23, .p (.bin 9 .neq (.t 21) (.t 22)), none⟩] [1, 2, 5, 23])
  (.cond (.t 23)
  (.seq (.ops [⟨some 4, .p (.mov (.c (.bool false))), none⟩] [4])
    (.ret))
  (.skip)))
  c_law2_DigestHexes_k6) Q e H := by_refl rfl
theorem u_law2_DigestHexes_k8_e {P : Program} {Q : VEx → Env → List Ob → Prop} {e : Env} {H : List Ob} : vwp P c_law2_DigestHexes_k8 Q e H = vwp P (.seq (.ops [⟨some 19, .p (.load true 20 (.t 2)), none⟩,
    ⟨some 20, .s (.call 14 [.t 19]), none⟩,
    ⟨some 6, .p (.mov (.t 20)), none⟩] [1, 2, 5, 6])
  c_law2_DigestHexes_k7) Q e H := by_refl rfl
theorem u_law2_DigestHexes_k9_e {P : Program} {Q : VEx → Env → List Ob → Prop} {e : Env} {H : List Ob} : vwp P c_law2_DigestHexes_k9 Q e H = vwp P (.seq (.ops [⟨some 17, .p (.load true 20 (.t 2)), none⟩,
    ⟨some 18, .s (.call 13 [.t 17]), none⟩,
    ⟨some 5, .p (.mov (.t 18)), none⟩] [1, 2, 5])
  c_law2_DigestHexes_k8) Q e H := by_refl rfl
theorem u_law2_DigestHexes_k10_e {P : Program} {Q : VEx → Env → List Ob → Prop} {e : Env} {H : List Ob} : vwp P c_law2_DigestHexes_k10 Q e H = vwp P (.seq (.seq (.ops [⟨some 14, .p (.mov (.t 1)), none⟩,
    ⟨some 15, .p (.lenS (.t 14)), none⟩,
    ⟨some 16, .p (.bin 3 .gtr (.t 15) (.c (.int .i64 ((300000 : Nat) : Int)))), none⟩] [1, 2, 16])
  (.cond (.t 16)
  (.seq (.ops [⟨some 4, .p (.mov (.c (.bool true))), none⟩] [4])
    (.ret))
  (.skip)))
  c_law2_DigestHexes_k9) Q e H := by_refl rfl
theorem u_law2_DigestHexes_e {P : Program} {Q : VEx → Env → List Ob → Prop} {e : Env} {H : List Ob} : vwp P c_law2_DigestHexes Q e H = vwp P (.seq (.ops [⟨some 2, .s (.box (.t 0)), none⟩,
    ⟨some 4, .p (.mov (.c (.bool false))), none⟩] [1, 2])
  c_law2_DigestHexes_k10) Q e H := by_refl rfl
theorem u_law2_DigestHexes_r {K : TV → Prop} {e : Env} {H : List Ob} : res r_law2_DigestHexes e H K = res [.tmp 4] e H K := by_refl rfl
def u_law2_DigestHexes := (And.intro (And.intro (And.intro (And.intro @u_law2_DigestHexes_k1_e @u_law2_DigestHexes_k2_e) (And.intro @u_law2_DigestHexes_k3_e @u_law2_DigestHexes_k4_e)) (And.intro (And.intro @u_law2_DigestHexes_k5_e @u_law2_DigestHexes_k6_e) (And.intro @u_law2_DigestHexes_k7_e @u_law2_DigestHexes_k8_e))) (And.intro (And.intro @u_law2_DigestHexes_k9_e @u_law2_DigestHexes_k10_e) (And.intro @u_law2_DigestHexes_e @u_law2_DigestHexes_r)))
theorem go_law2_DigestHexes {args : List TV} {H : List Ob} {R : TV → List Ob → Prop} (hn : args.length ≤ 67) (h : vwp Tryd.prog c_law2_DigestHexes (atEnd r_law2_DigestHexes R) (argsE 0 args) H) : VCalls Tryd.prog 4 args H R := vcalls_of Tryd.func4 t_law2_DigestHexes w_law2_DigestHexes hn h

/-! strings.IndexByte -/
def c_strings_IndexByte : VCode := .seq (.ops [⟨some 4, .p (.mov (.c (.int .i64 ((0 : Nat) : Int)))), none⟩] [0, 1])
  (.seq (.ops [⟨some 5, .p (.mov (.t 0)), none⟩,
    ⟨some 6, .p (.mov (.t 1)), none⟩,
    ⟨some 7, .s (.call 56 [.t 5, .t 6]), none⟩,
    ⟨some 4, .p (.mov (.t 7)), none⟩] [4])
  (.ret))
def r_strings_IndexByte : List VR := [.tmp 4]
theorem t_strings_IndexByte : Tryd.f36.body.bind (trC Tryd.prog Tryd.f36.ntmps) = some (er c_strings_IndexByte) := by kernel_rfl
theorem w_strings_IndexByte : trR Tryd.prog Tryd.f36.results.toList = some r_strings_IndexByte := by kernel_rfl
theorem u_strings_IndexByte_e {P : Program} {Q : VEx → Env → List Ob → Prop} {e : Env} {H : List Ob} : vwp P c_strings_IndexByte Q e H = vwp P (.seq (.ops [⟨some 4, .p (.mov (.c (.int .i64 ((0 : Nat) : Int)))), none⟩] [0, 1])
  (.seq (.ops [⟨some 5, .p (.mov (.t 0)), none⟩,
    ⟨some 6, .p (.mov (.t 1)), none⟩,
    ⟨some 7, .s (.call 56 [.t 5, .t 6]), none⟩,
    ⟨some 4, .p (.mov (.t 7)), none⟩] [4])
  (.ret))) Q e H := by_refl rfl
theorem u_strings_IndexByte_r {K : TV → Prop} {e : Env} {H : List Ob} : res r_strings_IndexByte e H K = res [.tmp 4] e H K := by_refl rfl
def u_strings_IndexByte := (And.intro @u_strings_IndexByte_e @u_strings_IndexByte_r)
theorem go_strings_IndexByte {args : List TV} {H : List Ob} {R : TV → List Ob → Prop} (hn : args.length ≤ 8) (h : vwp Tryd.prog c_strings_IndexByte (atEnd r_strings_IndexByte R) (argsE 0 args) H) : VCalls Tryd.prog 36 args H R := vcalls_of Tryd.func36 t_strings_IndexByte w_strings_IndexByte hn h

end Go.Proofs.YtknphdcjopaaoaaDoor
