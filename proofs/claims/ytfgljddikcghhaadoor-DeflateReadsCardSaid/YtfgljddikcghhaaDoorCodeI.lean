import Derived.Test.YtfgljddikcghhaaDoorBaseC
import Derived.Test.YtfgljddikcghhaaDoorProg
import Derived.KernelRfl
namespace Go.Proofs.YtfgljddikcghhaaDoor
variable [Globs]
set_option linter.unusedSectionVars false
set_option linter.unusedVariables false
set_option linter.defProp false
set_option maxRecDepth 100000

def c_deflate_reader_block_L1 : VCode := .seq (.ops [po_ 53 (.bin 3 .lss (.t 52) (.t 51))] [0, 3, 50, 51, 52, 53])
 (.seq (.cond (.t 53)
 (.skip)
 (.exit 1))
 (.seq (.block 2 (.seq (.ops [po_ 54 (.idxA 1 (.t 50) (.t 52)),
  po_ 55 (.load false 1 (.t 54)),
  mv_ 7 55] [0, 3, 7, 50, 51, 52])
 (.pops [mv_ 56 0,
  mv_ 57 7,
  so_ 58 (.call 25 [.t 56, .t 57])] [0, 3, 50, 51, 52])))
 (.ops [po_ 59 (.bin 3 .add (.t 52) (ci_ 1)),
  mv_ 52 59] [0, 3, 50, 51, 52])))
def c_deflate_reader_block_k2 : VCode := .seq (.pops [mv_ 48 0,
  mv_ 49 5,
  so_ 50 (.call 16 [.t 48, .t 49]),
  po_ 51 (.lenV (.t 50)),
  po_ 52 (.mov (ci_ 0))] [0, 3, 50, 51, 52])
 (.block 1 (.loop [0, 3, 50, 51, 52] c_deflate_reader_block_L1))
def c_deflate_reader_block_k3 : VCode := .seq (.seq (.draw 6 [mv_ 34 5,
  po_ 35 (.bin 3 .xor (.t 34) (ci_ 65535)),
  mv_ 36 4,
  po_ 37 (.idxA 1 (.t 36) (ci_ 2)),
  po_ 38 (.load false 1 (.t 37)),
  po_ 39 (.conv .i64 (.t 38)),
  mv_ 40 4,
  po_ 41 (.idxA 1 (.t 40) (ci_ 3)),
  po_ 42 (.load false 1 (.t 41)),
  po_ 43 (.conv .i64 (.t 42)),
  po_ 44 (.bin 3 .shl (.t 43) (.c (.int .u64 ((8 : Nat) : Int)))),
  po_ 45 (.bin 3 .or (.t 39) (.t 44)),
  po_ 46 (.bin 3 .neq (.t 35) (.t 45))] [0, 3, 5, 46])
 (.cond (.t 46)
 (.pops [po_ 47 (.iface 28 (ci_ 10)),
   ⟨none, .s (.pan (.t 47)), none⟩] [0, 3, 5])
 (.skip)))
 c_deflate_reader_block_k2
def c_deflate_reader_block_k4 : VCode := .seq (.draw 4 [mv_ 24 4,
  po_ 25 (.idxA 1 (.t 24) (ci_ 0)),
  po_ 26 (.load false 1 (.t 25)),
  po_ 27 (.conv .i64 (.t 26)),
  mv_ 28 4,
  po_ 29 (.idxA 1 (.t 28) (ci_ 1)),
  po_ 30 (.load false 1 (.t 29)),
  po_ 31 (.conv .i64 (.t 30)),
  po_ 32 (.bin 3 .shl (.t 31) (.c (.int .u64 ((8 : Nat) : Int)))),
  po_ 33 (.bin 3 .or (.t 27) (.t 32)),
  mv_ 5 33] [0, 3, 4, 5])
 c_deflate_reader_block_k3
def c_deflate_reader_block_k5 : VCode := .seq (.pops [mv_ 22 0,
  so_ 23 (.call 16 [.t 22, .c (.int .i64 ((4 : Nat) : Int))]),
  mv_ 4 23] [0, 3, 4])
 c_deflate_reader_block_k4
def c_deflate_reader_block_b6 : VCode := .seq (.ops [mv_ 20 0,
  so_ 21 (.call 15 [.t 20])] [0, 3])
 c_deflate_reader_block_k5
def c_deflate_reader_block_b7 : VCode := .seq (.ops [so_ 63 (.call 26 []),
  mv_ 62 63,
  po_ 64 (.ext 0 (.t 62)),
  po_ 65 (.ext 1 (.t 62)),
  mv_ 8 64,
  mv_ 9 65] [0, 3, 8, 9])
 (.pops [mv_ 66 0,
  mv_ 67 8,
  so_ 68 (.call 28 [.t 67, .c (.bool false), .c (.bool false)]),
  mv_ 69 9,
  so_ 70 (.call 28 [.t 69, .c (.bool false), .c (.bool false)]),
  so_ 71 (.call 27 [.t 66, .t 68, .t 70])] [3])
def c_deflate_reader_block_b8 : VCode := .seq (.pops [mv_ 75 0,
  so_ 76 (.call 29 [.t 75]),
  mv_ 74 76,
  po_ 77 (.ext 0 (.t 74)),
  po_ 78 (.ext 1 (.t 74)),
  mv_ 10 77,
  mv_ 11 78] [0, 3, 10, 11])
 (.pops [mv_ 79 0,
  mv_ 80 10,
  so_ 81 (.call 28 [.t 80, .c (.bool true), .c (.bool false)]),
  mv_ 82 11,
  so_ 83 (.call 28 [.t 82, .c (.bool true), .c (.bool true)]),
  so_ 84 (.call 27 [.t 79, .t 81, .t 83])] [3])
def c_deflate_reader_block_k9 : VCode := .cond (.t 72)
 c_deflate_reader_block_b8
 (.pops [po_ 17 (.iface 28 (ci_ 10)),
   ⟨none, .s (.pan (.t 17)), none⟩] [3])
def c_deflate_reader_block_b10 : VCode := .seq (.ops [po_ 73 (.bin 3 .eql (.t 16) (ci_ 2)),
  mv_ 72 73] [0, 3, 72])
 c_deflate_reader_block_k9
def c_deflate_reader_block_k11 : VCode := .cond (.t 60)
 c_deflate_reader_block_b7
 c_deflate_reader_block_b10
def c_deflate_reader_block_b12 : VCode := .seq (.ops [po_ 61 (.bin 3 .eql (.t 16) (ci_ 1)),
  mv_ 60 61] [0, 3, 16, 60])
 c_deflate_reader_block_k11
def c_deflate_reader_block_k13 : VCode := .cond (.t 18)
 c_deflate_reader_block_b6
 c_deflate_reader_block_b12
def c_deflate_reader_block_k14 : VCode := .block 0 (.seq (.ops [po_ 19 (.bin 3 .eql (.t 16) (ci_ 0)),
  mv_ 18 19] [0, 3, 16, 18])
 c_deflate_reader_block_k13)
def c_deflate_reader_block_k15 : VCode := .seq (.ops [mv_ 85 3,
  mv_ 2 85] [2])
 (.ret)
def c_deflate_reader_block_k16 : VCode := .seq (.seq (.pops [mv_ 15 0,
  so_ 16 (.call 24 [.t 15, .c (.int .i64 ((2 : Nat) : Int))])] [0, 3, 16])
 c_deflate_reader_block_k14)
 c_deflate_reader_block_k15
def c_deflate_reader_block_k17 : VCode := .seq (.pops [mv_ 12 0,
  so_ 13 (.call 24 [.t 12, .c (.int .i64 ((1 : Nat) : Int))]),
  po_ 14 (.bin 3 .eql (.t 13) (ci_ 1)),
  mv_ 3 14] [0, 3])
 c_deflate_reader_block_k16
def c_deflate_reader_block : VCode := .seq (.ops [po_ 2 (.mov (.c (.bool false)))] [0])
 c_deflate_reader_block_k17
def r_deflate_reader_block : List VR := [.tmp 2]
theorem t_deflate_reader_block : Tryd.f14.body.bind (trC Tryd.prog Tryd.f14.ntmps) = some (er c_deflate_reader_block) := by kernel_rfl
theorem w_deflate_reader_block : trR Tryd.prog Tryd.f14.results.toList = some r_deflate_reader_block := by kernel_rfl
def u_deflate_reader_block_L1_e := code_eq c_deflate_reader_block_L1.eq_1
def u_deflate_reader_block_k2_e := code_eq c_deflate_reader_block_k2.eq_1
def u_deflate_reader_block_k3_e := code_eq c_deflate_reader_block_k3.eq_1
def u_deflate_reader_block_k4_e := code_eq c_deflate_reader_block_k4.eq_1
def u_deflate_reader_block_k5_e := code_eq c_deflate_reader_block_k5.eq_1
def u_deflate_reader_block_b6_e := code_eq c_deflate_reader_block_b6.eq_1
def u_deflate_reader_block_b7_e := code_eq c_deflate_reader_block_b7.eq_1
def u_deflate_reader_block_b8_e := code_eq c_deflate_reader_block_b8.eq_1
def u_deflate_reader_block_k9_e := code_eq c_deflate_reader_block_k9.eq_1
def u_deflate_reader_block_b10_e := code_eq c_deflate_reader_block_b10.eq_1
def u_deflate_reader_block_k11_e := code_eq c_deflate_reader_block_k11.eq_1
def u_deflate_reader_block_b12_e := code_eq c_deflate_reader_block_b12.eq_1
def u_deflate_reader_block_k13_e := code_eq c_deflate_reader_block_k13.eq_1
def u_deflate_reader_block_k14_e := code_eq c_deflate_reader_block_k14.eq_1
def u_deflate_reader_block_k15_e := code_eq c_deflate_reader_block_k15.eq_1
def u_deflate_reader_block_k16_e := code_eq c_deflate_reader_block_k16.eq_1
def u_deflate_reader_block_k17_e := code_eq c_deflate_reader_block_k17.eq_1
def u_deflate_reader_block_e := code_eq c_deflate_reader_block.eq_1
theorem u_deflate_reader_block_r {K : TV → Prop} {e : Env} {H : List Ob} : res r_deflate_reader_block e H K = res [.tmp 2] e H K := by_refl rfl
def u_deflate_reader_block := (And.intro (And.intro (And.intro (And.intro (And.intro @u_deflate_reader_block_L1_e @u_deflate_reader_block_k2_e) (And.intro @u_deflate_reader_block_k3_e @u_deflate_reader_block_k4_e)) (And.intro (And.intro @u_deflate_reader_block_k5_e @u_deflate_reader_block_b6_e) (And.intro @u_deflate_reader_block_b7_e @u_deflate_reader_block_b8_e))) (And.intro (And.intro (And.intro @u_deflate_reader_block_k9_e @u_deflate_reader_block_b10_e) (And.intro @u_deflate_reader_block_k11_e @u_deflate_reader_block_b12_e)) (And.intro (And.intro @u_deflate_reader_block_k13_e @u_deflate_reader_block_k14_e) (And.intro @u_deflate_reader_block_k15_e @u_deflate_reader_block_k16_e)))) (And.intro (And.intro @u_deflate_reader_block_k17_e @u_deflate_reader_block_e) @u_deflate_reader_block_r))
def gp_deflate_reader_block := gp_of 86 Tryd.func14 t_deflate_reader_block w_deflate_reader_block rfl

def c_deflate_reader_align : VCode := .ops [mv_ 2 0,
  mv_ 3 0,
  po_ 4 (.nilc (.t 2)),
  po_ 5 (.fieldA 1 1 (.t 4)),
  ⟨none, .s (.store 1 (.t 5) (.c (.int .u32 ((0 : Nat) : Int)))), none⟩,
  po_ 6 (.nilc (.t 3)),
  po_ 7 (.fieldA 2 2 (.t 6)),
  ⟨none, .s (.store 1 (.t 7) (ci_ 0)), none⟩] []
def r_deflate_reader_align : List VR := []
theorem t_deflate_reader_align : Tryd.f15.body.bind (trC Tryd.prog Tryd.f15.ntmps) = some (er c_deflate_reader_align) := by kernel_rfl
theorem w_deflate_reader_align : trR Tryd.prog Tryd.f15.results.toList = some r_deflate_reader_align := by kernel_rfl
def u_deflate_reader_align_e := code_eq c_deflate_reader_align.eq_1
theorem u_deflate_reader_align_r {K : TV → Prop} {e : Env} {H : List Ob} : res r_deflate_reader_align e H K = res [] e H K := by_refl rfl
def u_deflate_reader_align := (And.intro @u_deflate_reader_align_e @u_deflate_reader_align_r)
def go_deflate_reader_align := go_of 8 Tryd.func15 t_deflate_reader_align w_deflate_reader_align rfl

def c_deflate_reader_take_k1 : VCode := .seq (.ops [mv_ 14 0,
  po_ 15 (.nilc (.t 14)),
  po_ 16 (.fieldA 0 0 (.t 15)),
  po_ 17 (.load false 1 (.t 16)),
  mv_ 18 1,
  mv_ 19 1,
  po_ 20 (.gen (.sl3 1) [.t 17, .c (.int .i64 ((0 : Nat) : Int)), .t 18, .t 19]),
  mv_ 5 20] [0, 1, 5])
 (.seq (.ops [mv_ 21 0,
  mv_ 22 0,
  po_ 23 (.nilc (.t 22)),
  po_ 24 (.fieldA 0 0 (.t 23)),
  po_ 25 (.load false 1 (.t 24)),
  mv_ 26 1,
  po_ 27 (.slV 1 (.t 25) (some (.t 26)) none),
  po_ 28 (.nilc (.t 21)),
  po_ 29 (.fieldA 0 0 (.t 28)),
  ⟨none, .s (.store 1 (.t 29) (.t 27)), none⟩] [5])
 (.seq (.ops [mv_ 30 5,
  mv_ 4 30] [4])
 (.ret)))
def c_deflate_reader_take_k2 : VCode := .seq (.seq (.ops [mv_ 6 1,
  mv_ 7 0,
  po_ 8 (.nilc (.t 7)),
  po_ 9 (.fieldA 0 0 (.t 8)),
  po_ 10 (.load false 1 (.t 9)),
  po_ 11 (.lenV (.t 10)),
  po_ 12 (.bin 3 .gtr (.t 6) (.t 11))] [0, 1, 12])
 (.cond (.t 12)
 (.pops [po_ 13 (.iface 28 (ci_ 10)),
   ⟨none, .s (.pan (.t 13)), none⟩] [0, 1])
 (.skip)))
 c_deflate_reader_take_k1
def c_deflate_reader_take : VCode := .seq (.ops [po_ 4 (.mov (.c (.slice none 0 0)))] [0, 1])
 c_deflate_reader_take_k2
def r_deflate_reader_take : List VR := [.tmp 4]
theorem t_deflate_reader_take : Tryd.f16.body.bind (trC Tryd.prog Tryd.f16.ntmps) = some (er c_deflate_reader_take) := by kernel_rfl
theorem w_deflate_reader_take : trR Tryd.prog Tryd.f16.results.toList = some r_deflate_reader_take := by kernel_rfl
def u_deflate_reader_take_k1_e := code_eq c_deflate_reader_take_k1.eq_1
def u_deflate_reader_take_k2_e := code_eq c_deflate_reader_take_k2.eq_1
def u_deflate_reader_take_e := code_eq c_deflate_reader_take.eq_1
theorem u_deflate_reader_take_r {K : TV → Prop} {e : Env} {H : List Ob} : res r_deflate_reader_take e H K = res [.tmp 4] e H K := by_refl rfl
def u_deflate_reader_take := (And.intro (And.intro @u_deflate_reader_take_k1_e @u_deflate_reader_take_k2_e) (And.intro @u_deflate_reader_take_e @u_deflate_reader_take_r))
def gp_deflate_reader_take := gp_of 31 Tryd.func16 t_deflate_reader_take w_deflate_reader_take rfl

def c_deflate_reader_bits_k1 : VCode := .seq (.ops [mv_ 38 0,
  mv_ 39 0,
  po_ 40 (.nilc (.t 39)),
  po_ 41 (.fieldA 0 0 (.t 40)),
  po_ 42 (.load false 1 (.t 41)),
  po_ 43 (.slV 1 (.t 42) (some (ci_ 1)) none),
  po_ 44 (.nilc (.t 38)),
  po_ 45 (.fieldA 0 0 (.t 44)),
  ⟨none, .s (.store 1 (.t 45) (.t 43)), none⟩] [0, 1])
 (.ops [mv_ 46 0,
  po_ 47 (.nilc (.t 46)),
  po_ 48 (.fieldA 2 2 (.t 47)),
  po_ 49 (.load false 1 (.t 48)),
  po_ 50 (.bin 3 .add (.t 49) (ci_ 8)),
  po_ 51 (.nilc (.t 46)),
  po_ 52 (.fieldA 2 2 (.t 51)),
  ⟨none, .s (.store 1 (.t 52) (.t 50)), none⟩] [0, 1])
def c_deflate_reader_bits_k2 : VCode := .seq (.draw 11 [mv_ 19 0,
  po_ 20 (.nilc (.t 19)),
  po_ 21 (.fieldA 1 1 (.t 20)),
  po_ 22 (.load false 1 (.t 21)),
  mv_ 23 0,
  po_ 24 (.nilc (.t 23)),
  po_ 25 (.fieldA 0 0 (.t 24)),
  po_ 26 (.load false 1 (.t 25)),
  po_ 27 (.idxA 1 (.t 26) (ci_ 0)),
  po_ 28 (.load false 1 (.t 27)),
  po_ 29 (.conv .u32 (.t 28)),
  mv_ 30 0,
  po_ 31 (.nilc (.t 30)),
  po_ 32 (.fieldA 2 2 (.t 31)),
  po_ 33 (.load false 1 (.t 32)),
  po_ 34 (.bin 36 .shl (.t 29) (.t 33)),
  po_ 35 (.bin 36 .or (.t 22) (.t 34)),
  po_ 36 (.nilc (.t 19)),
  po_ 37 (.fieldA 1 1 (.t 36)),
  ⟨none, .s (.store 1 (.t 37) (.t 35)), none⟩] [0, 1])
 c_deflate_reader_bits_k1
def c_deflate_reader_bits_k3 : VCode := .block 1 (.seq (.seq (.ops [mv_ 12 0,
  po_ 13 (.nilc (.t 12)),
  po_ 14 (.fieldA 0 0 (.t 13)),
  po_ 15 (.load false 1 (.t 14)),
  po_ 16 (.lenV (.t 15)),
  po_ 17 (.bin 3 .eql (.t 16) (ci_ 0))] [0, 1, 17])
 (.cond (.t 17)
 (.pops [po_ 18 (.iface 28 (ci_ 10)),
   ⟨none, .s (.pan (.t 18)), none⟩] [0, 1])
 (.skip)))
 c_deflate_reader_bits_k2)
def c_deflate_reader_bits_L4 : VCode := .seq (.seq (.ops [mv_ 6 0,
  po_ 7 (.nilc (.t 6)),
  po_ 8 (.fieldA 2 2 (.t 7)),
  po_ 9 (.load false 1 (.t 8)),
  mv_ 10 1,
  po_ 11 (.bin 3 .lss (.t 9) (.t 10))] [0, 1, 11])
 (.cond (.t 11)
 (.skip)
 (.exit 0)))
 c_deflate_reader_bits_k3
def c_deflate_reader_bits_k5 : VCode := .seq (.ops [mv_ 61 0,
  po_ 62 (.nilc (.t 61)),
  po_ 63 (.fieldA 1 1 (.t 62)),
  po_ 64 (.load false 1 (.t 63)),
  mv_ 65 1,
  po_ 66 (.bin 36 .shr (.t 64) (.t 65)),
  po_ 67 (.nilc (.t 61)),
  po_ 68 (.fieldA 1 1 (.t 67)),
  ⟨none, .s (.store 1 (.t 68) (.t 66)), none⟩] [0, 1, 5])
 (.seq (.ops [mv_ 69 0,
  po_ 70 (.nilc (.t 69)),
  po_ 71 (.fieldA 2 2 (.t 70)),
  po_ 72 (.load false 1 (.t 71)),
  mv_ 73 1,
  po_ 74 (.bin 3 .sub (.t 72) (.t 73)),
  po_ 75 (.nilc (.t 69)),
  po_ 76 (.fieldA 2 2 (.t 75)),
  ⟨none, .s (.store 1 (.t 76) (.t 74)), none⟩] [5])
 (.seq (.ops [mv_ 77 5,
  po_ 78 (.conv .i64 (.t 77)),
  mv_ 4 78] [4])
 (.ret)))
def c_deflate_reader_bits_k6 : VCode := .seq (.draw 4 [mv_ 53 0,
  po_ 54 (.nilc (.t 53)),
  po_ 55 (.fieldA 1 1 (.t 54)),
  po_ 56 (.load false 1 (.t 55)),
  mv_ 57 1,
  po_ 58 (.bin 36 .shl (.c (.int .u32 ((1 : Nat) : Int))) (.t 57)),
  po_ 59 (.bin 36 .sub (.t 58) (.c (.int .u32 ((1 : Nat) : Int)))),
  po_ 60 (.bin 36 .and (.t 56) (.t 59)),
  mv_ 5 60] [0, 1, 5])
 c_deflate_reader_bits_k5
def c_deflate_reader_bits_k7 : VCode := .seq (.block 0 (.loop [0, 1] c_deflate_reader_bits_L4))
 c_deflate_reader_bits_k6
def c_deflate_reader_bits : VCode := .seq (.ops [po_ 4 (.mov (ci_ 0))] [0, 1])
 c_deflate_reader_bits_k7
def r_deflate_reader_bits : List VR := [.tmp 4]
theorem t_deflate_reader_bits : Tryd.f24.body.bind (trC Tryd.prog Tryd.f24.ntmps) = some (er c_deflate_reader_bits) := by kernel_rfl
theorem w_deflate_reader_bits : trR Tryd.prog Tryd.f24.results.toList = some r_deflate_reader_bits := by kernel_rfl
def u_deflate_reader_bits_k1_e := code_eq c_deflate_reader_bits_k1.eq_1
def u_deflate_reader_bits_k2_e := code_eq c_deflate_reader_bits_k2.eq_1
def u_deflate_reader_bits_k3_e := code_eq c_deflate_reader_bits_k3.eq_1
def u_deflate_reader_bits_L4_e := code_eq c_deflate_reader_bits_L4.eq_1
def u_deflate_reader_bits_k5_e := code_eq c_deflate_reader_bits_k5.eq_1
def u_deflate_reader_bits_k6_e := code_eq c_deflate_reader_bits_k6.eq_1
def u_deflate_reader_bits_k7_e := code_eq c_deflate_reader_bits_k7.eq_1
def u_deflate_reader_bits_e := code_eq c_deflate_reader_bits.eq_1
theorem u_deflate_reader_bits_r {K : TV → Prop} {e : Env} {H : List Ob} : res r_deflate_reader_bits e H K = res [.tmp 4] e H K := by_refl rfl
def u_deflate_reader_bits := (And.intro (And.intro (And.intro (And.intro @u_deflate_reader_bits_k1_e @u_deflate_reader_bits_k2_e) (And.intro @u_deflate_reader_bits_k3_e @u_deflate_reader_bits_L4_e)) (And.intro (And.intro @u_deflate_reader_bits_k5_e @u_deflate_reader_bits_k6_e) (And.intro @u_deflate_reader_bits_k7_e @u_deflate_reader_bits_e))) @u_deflate_reader_bits_r)
def gp_deflate_reader_bits := gp_of 79 Tryd.func24 t_deflate_reader_bits w_deflate_reader_bits rfl

def c_deflate_reader_put : VCode := .seq (.seq (.draw 5 [mv_ 4 0,
  po_ 5 (.nilc (.t 4)),
  po_ 6 (.fieldA 3 3 (.t 5)),
  po_ 7 (.load false 1 (.t 6)),
  po_ 8 (.lenV (.t 7)),
  mv_ 9 0,
  po_ 10 (.nilc (.t 9)),
  po_ 11 (.fieldA 4 4 (.t 10)),
  po_ 12 (.load false 1 (.t 11)),
  po_ 13 (.bin 3 .geq (.t 8) (.t 12))] [0, 1, 13])
 (.cond (.t 13)
 (.pops [po_ 14 (.iface 28 (ci_ 11)),
   ⟨none, .s (.pan (.t 14)), none⟩] [0, 1])
 (.skip)))
 (.ops [mv_ 15 0,
  mv_ 16 0,
  po_ 17 (.nilc (.t 16)),
  po_ 18 (.fieldA 3 3 (.t 17)),
  po_ 19 (.load false 1 (.t 18)),
  mv_ 20 1,
  ⟨some 21, .s (.bslice 1 1 (.val (.int .u8 ((0 : Nat) : Int))) [⟨0, .t 20⟩]), none⟩,
  so_ 22 (.app 1 1 5 (.t 19) (.t 21)),
  po_ 23 (.nilc (.t 15)),
  po_ 24 (.fieldA 3 3 (.t 23)),
  ⟨none, .s (.store 1 (.t 24) (.t 22)), none⟩] [])
def r_deflate_reader_put : List VR := []
theorem t_deflate_reader_put : Tryd.f25.body.bind (trC Tryd.prog Tryd.f25.ntmps) = some (er c_deflate_reader_put) := by kernel_rfl
theorem w_deflate_reader_put : trR Tryd.prog Tryd.f25.results.toList = some r_deflate_reader_put := by kernel_rfl
def u_deflate_reader_put_e := code_eq c_deflate_reader_put.eq_1
theorem u_deflate_reader_put_r {K : TV → Prop} {e : Env} {H : List Ob} : res r_deflate_reader_put e H K = res [] e H K := by_refl rfl
def u_deflate_reader_put := (And.intro @u_deflate_reader_put_e @u_deflate_reader_put_r)
def gp_deflate_reader_put := gp_of 25 Tryd.func25 t_deflate_reader_put w_deflate_reader_put rfl

def c_deflate_fixedLengths_b1 : VCode := .seq (.ops [mv_ 27 2,
  po_ 28 (.bin 3 .lss (.t 27) (ci_ 280)),
  mv_ 26 28] [0, 1, 2, 7, 8, 26])
 (.cond (.t 26)
 (.ops [mv_ 29 0,
   mv_ 30 2,
   po_ 31 (.idxA 1 (.t 29) (.t 30)),
   ⟨none, .s (.store 1 (.t 31) (ci_ 7)), none⟩] [0, 1, 7, 8])
 (.ops [mv_ 11 0,
   mv_ 12 2,
   po_ 13 (.idxA 1 (.t 11) (.t 12)),
   ⟨none, .s (.store 1 (.t 13) (ci_ 8)), none⟩] [0, 1, 7, 8]))
def c_deflate_fixedLengths_k2 : VCode := .cond (.t 20)
 (.ops [mv_ 23 0,
   mv_ 24 2,
   po_ 25 (.idxA 1 (.t 23) (.t 24)),
   ⟨none, .s (.store 1 (.t 25) (ci_ 9)), none⟩] [0, 1, 7, 8])
 c_deflate_fixedLengths_b1
def c_deflate_fixedLengths_b3 : VCode := .seq (.ops [mv_ 21 2,
  po_ 22 (.bin 3 .lss (.t 21) (ci_ 256)),
  mv_ 20 22] [0, 1, 2, 7, 8, 20])
 c_deflate_fixedLengths_k2
def c_deflate_fixedLengths_k4 : VCode := .cond (.t 14)
 (.ops [mv_ 17 0,
   mv_ 18 2,
   po_ 19 (.idxA 1 (.t 17) (.t 18)),
   ⟨none, .s (.store 1 (.t 19) (ci_ 8)), none⟩] [0, 1, 7, 8])
 c_deflate_fixedLengths_b3
def c_deflate_fixedLengths_k5 : VCode := .block 2 (.seq (.ops [mv_ 15 2,
  po_ 16 (.bin 3 .lss (.t 15) (ci_ 144)),
  mv_ 14 16] [0, 1, 2, 7, 8, 14])
 c_deflate_fixedLengths_k4)
def c_deflate_fixedLengths_k6 : VCode := .seq (.block 1 (.seq (.ops [mv_ 10 8,
  mv_ 2 10] [0, 1, 2, 7, 8])
 c_deflate_fixedLengths_k5))
 (.ops [po_ 32 (.bin 3 .add (.t 8) (ci_ 1)),
  mv_ 8 32] [0, 1, 7, 8])
def c_deflate_fixedLengths_k7 : VCode := .seq (.cond (.t 9)
 (.skip)
 (.exit 0))
 c_deflate_fixedLengths_k6
def c_deflate_fixedLengths_L8 : VCode := .seq (.ops [po_ 9 (.bin 3 .lss (.t 8) (.t 7))] [0, 1, 7, 8, 9])
 c_deflate_fixedLengths_k7
def c_deflate_fixedLengths_k9 : VCode := .block 0 (.loop [0, 1, 7, 8] c_deflate_fixedLengths_L8)
def c_deflate_fixedLengths_L10 : VCode := .seq (.ops [po_ 36 (.bin 3 .lss (.t 35) (.t 34))] [0, 1, 34, 35, 36])
 (.seq (.cond (.t 36)
 (.skip)
 (.exit 3))
 (.seq (.block 4 (.seq (.ops [mv_ 37 35,
  mv_ 3 37] [0, 1, 3, 34, 35])
 (.ops [mv_ 38 1,
  mv_ 39 3,
  po_ 40 (.idxA 1 (.t 38) (.t 39)),
  ⟨none, .s (.store 1 (.t 40) (ci_ 5)), none⟩] [0, 1, 34, 35])))
 (.ops [po_ 41 (.bin 3 .add (.t 35) (ci_ 1)),
  mv_ 35 41] [0, 1, 34, 35])))
def c_deflate_fixedLengths_k11 : VCode := .frz 1 (.frz 0 (.seq (.ops [mv_ 42 0,
  mv_ 43 1,
  mv_ 0 42,
  mv_ 1 43] [0, 1])
 (.ret)))
def c_deflate_fixedLengths_k12 : VCode := .seq (.seq (.ops [mv_ 33 1,
  po_ 34 (.lenV (.t 33)),
  po_ 35 (.mov (ci_ 0))] [0, 1, 34, 35])
 (.block 3 (.loop [0, 1, 34, 35] c_deflate_fixedLengths_L10)))
 c_deflate_fixedLengths_k11
def c_deflate_fixedLengths_k13 : VCode := .seq (.seq (.ops [mv_ 6 0,
  po_ 7 (.lenV (.t 6)),
  po_ 8 (.mov (ci_ 0))] [0, 1, 7, 8])
 c_deflate_fixedLengths_k9)
 c_deflate_fixedLengths_k12
def c_deflate_fixedLengths_k14 : VCode := .seq (.draw 0 [so_ 4 (.mks 1 8 (.val (.int .i64 ((0 : Nat) : Int))) (ci_ 288) (ci_ 288)),
  so_ 5 (.mks 1 8 (.val (.int .i64 ((0 : Nat) : Int))) (ci_ 32) (ci_ 32)),
  mv_ 0 4,
  mv_ 1 5] [0, 1])
 c_deflate_fixedLengths_k13
def c_deflate_fixedLengths : VCode := .seq (.ops [po_ 0 (.mov (.c (.slice none 0 0))),
  po_ 1 (.mov (.c (.slice none 0 0)))] [])
 c_deflate_fixedLengths_k14
def r_deflate_fixedLengths : List VR := [.tmp 0, .tmp 1]
theorem t_deflate_fixedLengths : Tryd.f26.body.bind (trC Tryd.prog Tryd.f26.ntmps) = some (er c_deflate_fixedLengths) := by kernel_rfl
theorem w_deflate_fixedLengths : trR Tryd.prog Tryd.f26.results.toList = some r_deflate_fixedLengths := by kernel_rfl
def u_deflate_fixedLengths_b1_e := code_eq c_deflate_fixedLengths_b1.eq_1
def u_deflate_fixedLengths_k2_e := code_eq c_deflate_fixedLengths_k2.eq_1
def u_deflate_fixedLengths_b3_e := code_eq c_deflate_fixedLengths_b3.eq_1
def u_deflate_fixedLengths_k4_e := code_eq c_deflate_fixedLengths_k4.eq_1
def u_deflate_fixedLengths_k5_e := code_eq c_deflate_fixedLengths_k5.eq_1
def u_deflate_fixedLengths_k6_e := code_eq c_deflate_fixedLengths_k6.eq_1
def u_deflate_fixedLengths_k7_e := code_eq c_deflate_fixedLengths_k7.eq_1
def u_deflate_fixedLengths_L8_e := code_eq c_deflate_fixedLengths_L8.eq_1
def u_deflate_fixedLengths_k9_e := code_eq c_deflate_fixedLengths_k9.eq_1
def u_deflate_fixedLengths_L10_e := code_eq c_deflate_fixedLengths_L10.eq_1
def u_deflate_fixedLengths_k11_e := code_eq c_deflate_fixedLengths_k11.eq_1
def u_deflate_fixedLengths_k12_e := code_eq c_deflate_fixedLengths_k12.eq_1
def u_deflate_fixedLengths_k13_e := code_eq c_deflate_fixedLengths_k13.eq_1
def u_deflate_fixedLengths_k14_e := code_eq c_deflate_fixedLengths_k14.eq_1
def u_deflate_fixedLengths_e := code_eq c_deflate_fixedLengths.eq_1
theorem u_deflate_fixedLengths_r {K : TV → Prop} {e : Env} {H : List Ob} : res r_deflate_fixedLengths e H K = res [.tmp 0, .tmp 1] e H K := by_refl rfl
def u_deflate_fixedLengths := (And.intro (And.intro (And.intro (And.intro @u_deflate_fixedLengths_b1_e @u_deflate_fixedLengths_k2_e) (And.intro @u_deflate_fixedLengths_b3_e @u_deflate_fixedLengths_k4_e)) (And.intro (And.intro @u_deflate_fixedLengths_k5_e @u_deflate_fixedLengths_k6_e) (And.intro @u_deflate_fixedLengths_k7_e @u_deflate_fixedLengths_L8_e))) (And.intro (And.intro (And.intro @u_deflate_fixedLengths_k9_e @u_deflate_fixedLengths_L10_e) (And.intro @u_deflate_fixedLengths_k11_e @u_deflate_fixedLengths_k12_e)) (And.intro (And.intro @u_deflate_fixedLengths_k13_e @u_deflate_fixedLengths_k14_e) (And.intro @u_deflate_fixedLengths_e @u_deflate_fixedLengths_r))))
def go_deflate_fixedLengths := go_of 44 Tryd.func26 t_deflate_fixedLengths w_deflate_fixedLengths rfl

def c_deflate_grow_L1 : VCode := .seq (.ops [po_ 21 (.bin 3 .lss (.t 20) (.t 19))] [0, 1, 2, 7, 18, 19, 20, 21])
 (.seq (.cond (.t 21)
 (.skip)
 (.exit 0))
 (.seq (.block 1 (.seq (.ops [po_ 22 (.idxA 1 (.t 18) (.t 20)),
  po_ 23 (.load false 1 (.t 22)),
  mv_ 9 23] [0, 1, 2, 7, 9, 18, 19, 20])
 (.ops [mv_ 24 9,
  po_ 25 (.idxAA 16 1 (.t 7) (.t 24)),
  po_ 26 (.load false 1 (.t 25)),
  po_ 27 (.bin 3 .add (.t 26) (ci_ 1)),
  po_ 28 (.idxAA 16 1 (.t 7) (.t 24)),
  ⟨none, .s (.store 1 (.t 28) (.t 27)), none⟩] [0, 1, 2, 7, 18, 19, 20])))
 (.ops [po_ 29 (.bin 3 .add (.t 20) (ci_ 1)),
  mv_ 20 29] [0, 1, 2, 7, 18, 19, 20])))
def c_deflate_grow_k2 : VCode := .seq (.block 3 (.seq (.ops [mv_ 34 10,
  po_ 35 (.bin 3 .mul (.t 34) (ci_ 2)),
  mv_ 36 12,
  po_ 37 (.idxAA 16 1 (.t 7) (.t 36)),
  po_ 38 (.load false 1 (.t 37)),
  po_ 39 (.bin 3 .sub (.t 35) (.t 38)),
  mv_ 10 39] [0, 1, 2, 7, 10, 11, 12])
 (.seq (.ops [mv_ 40 11,
  mv_ 41 12,
  po_ 42 (.idxAA 16 1 (.t 7) (.t 41)),
  po_ 43 (.load false 1 (.t 42)),
  po_ 44 (.bin 3 .add (.t 40) (.t 43)),
  mv_ 11 44] [0, 1, 2, 7, 10, 11, 12])
 (.seq (.ops [mv_ 45 10,
  po_ 46 (.bin 3 .lss (.t 45) (ci_ 0))] [0, 1, 2, 7, 10, 11, 12, 46])
 (.cond (.t 46)
 (.pops [po_ 47 (.iface 28 (ci_ 10)),
   ⟨none, .s (.pan (.t 47)), none⟩] [0, 1, 2, 7, 10, 11, 12])
 (.skip))))))
 (.ops [mv_ 32 12,
  po_ 33 (.bin 3 .add (.t 32) (ci_ 1)),
  mv_ 12 33] [0, 1, 2, 7, 10, 11, 12])
def c_deflate_grow_L3 : VCode := .seq (.seq (.ops [mv_ 30 12,
  po_ 31 (.bin 3 .lss (.t 30) (ci_ 16))] [0, 1, 2, 7, 10, 11, 12, 31])
 (.cond (.t 31)
 (.skip)
 (.exit 2)))
 c_deflate_grow_k2
def c_deflate_grow_k4 : VCode := .block 2 (.loop [0, 1, 2, 7, 10, 11, 12] c_deflate_grow_L3)
def c_deflate_grow_k5 : VCode := .seq (.block 5 (.draw 5 [mv_ 76 14,
  po_ 77 (.bin 3 .add (.t 76) (ci_ 1)),
  mv_ 78 14,
  po_ 79 (.idxAA 17 1 (.t 13) (.t 78)),
  po_ 80 (.load false 1 (.t 79)),
  mv_ 81 14,
  po_ 82 (.idxAA 16 1 (.t 7) (.t 81)),
  po_ 83 (.load false 1 (.t 82)),
  po_ 84 (.bin 3 .add (.t 80) (.t 83)),
  po_ 85 (.bin 3 .shl (.t 84) (.c (.int .u64 ((1 : Nat) : Int)))),
  po_ 86 (.idxAA 17 1 (.t 13) (.t 77)),
  ⟨none, .s (.store 1 (.t 86) (.t 85)), none⟩] [0, 7, 13, 14]))
 (.ops [mv_ 74 14,
  po_ 75 (.bin 3 .add (.t 74) (ci_ 1)),
  mv_ 14 75] [0, 7, 13, 14])
def c_deflate_grow_L6 : VCode := .seq (.seq (.ops [mv_ 72 14,
  po_ 73 (.bin 3 .lss (.t 72) (ci_ 16))] [0, 7, 13, 14, 73])
 (.cond (.t 73)
 (.skip)
 (.exit 4)))
 c_deflate_grow_k5
def c_deflate_grow_k7 : VCode := .block 4 (.loop [0, 7, 13, 14] c_deflate_grow_L6)
def c_deflate_grow_b8 : VCode := .seq (.ops [mv_ 98 17,
  po_ 99 (.idxAA 17 1 (.t 13) (.t 98)),
  po_ 100 (.load false 1 (.t 99)),
  mv_ 101 17,
  mv_ 102 16,
  so_ 103 (.call 49 [.t 15, .t 100, .t 101, .t 102])] [13, 15, 17, 89, 90, 91])
 (.ops [mv_ 104 17,
  po_ 105 (.idxAA 17 1 (.t 13) (.t 104)),
  po_ 106 (.load false 1 (.t 105)),
  po_ 107 (.bin 3 .add (.t 106) (ci_ 1)),
  po_ 108 (.idxAA 17 1 (.t 13) (.t 104)),
  ⟨none, .s (.store 1 (.t 108) (.t 107)), none⟩] [13, 15, 89, 90, 91])
def c_deflate_grow_k9 : VCode := .seq (.ops [mv_ 96 17,
  po_ 97 (.bin 3 .gtr (.t 96) (ci_ 0))] [13, 15, 16, 17, 89, 90, 91, 97])
 (.cond (.t 97)
 c_deflate_grow_b8
 (.skip))
def c_deflate_grow_k10 : VCode := .seq (.block 7 (.seq (.ops [mv_ 93 91,
  po_ 94 (.idxA 1 (.t 89) (.t 91)),
  po_ 95 (.load false 1 (.t 94)),
  mv_ 16 93,
  mv_ 17 95] [13, 15, 16, 17, 89, 90, 91])
 c_deflate_grow_k9))
 (.ops [po_ 109 (.bin 3 .add (.t 91) (ci_ 1)),
  mv_ 91 109] [13, 15, 89, 90, 91])
def c_deflate_grow_k11 : VCode := .seq (.cond (.t 92)
 (.skip)
 (.exit 6))
 c_deflate_grow_k10
def c_deflate_grow_L12 : VCode := .seq (.ops [po_ 92 (.bin 3 .lss (.t 91) (.t 90))] [13, 15, 89, 90, 91, 92])
 c_deflate_grow_k11
def c_deflate_grow_k13 : VCode := .block 6 (.loop [13, 15, 89, 90, 91] c_deflate_grow_L12)
def c_deflate_grow_k14 : VCode := .seq (.ops [po_ 110 (.load false 1 (.t 15)),
  mv_ 6 110] [6])
 (.ret)
def c_deflate_grow_k15 : VCode := .seq (.seq (.ops [mv_ 89 0,
  po_ 90 (.lenV (.t 89)),
  po_ 91 (.mov (ci_ 0))] [13, 15, 89, 90, 91])
 c_deflate_grow_k13)
 c_deflate_grow_k14
def c_deflate_grow_k16 : VCode := .seq (.ops [po_ 87 (.buildA 2 1 [.val (.int .i64 ((0 : Nat) : Int)), .val (.int .i64 ((0 : Nat) : Int))] []),
  ⟨some 88, .s (.bslice 2 1 (.arr 2 1 [.val (.int .i64 ((0 : Nat) : Int)), .val (.int .i64 ((0 : Nat) : Int))]) [⟨0, .t 87⟩]), none⟩,
  so_ 15 (.alloc (.val (.slice none 0 0))),
  ⟨none, .s (.store 1 (.t 15) (.t 88)), none⟩] [0, 13, 15])
 c_deflate_grow_k15
def c_deflate_grow_k17 : VCode := .seq (.seq (.ops [po_ 14 (.mov (ci_ 1))] [0, 7, 13, 14])
 c_deflate_grow_k7)
 c_deflate_grow_k16
def c_deflate_grow_k18 : VCode := .seq (.ops [so_ 13 (.alloc (.arr 17 1 [.val (.int .i64 ((0 : Nat) : Int)), .val (.int .i64 ((0 : Nat) : Int)), .val (.int .i64 ((0 : Nat) : Int)), .val (.int .i64 ((0 : Nat) : Int)), .val (.int .i64 ((0 : Nat) : Int)), .val (.int .i64 ((0 : Nat) : Int)), .val (.int .i64 ((0 : Nat) : Int)), .val (.int .i64 ((0 : Nat) : Int)), .val (.int .i64 ((0 : Nat) : Int)), .val (.int .i64 ((0 : Nat) : Int)), .val (.int .i64 ((0 : Nat) : Int)), .val (.int .i64 ((0 : Nat) : Int)), .val (.int .i64 ((0 : Nat) : Int)), .val (.int .i64 ((0 : Nat) : Int)), .val (.int .i64 ((0 : Nat) : Int)), .val (.int .i64 ((0 : Nat) : Int)), .val (.int .i64 ((0 : Nat) : Int))]))] [0, 7, 13])
 c_deflate_grow_k17
def c_deflate_grow_k19 : VCode := .seq (.seq (.ops [mv_ 48 10,
  po_ 49 (.bin 3 .gtr (.t 48) (ci_ 0)),
  mv_ 50 49,
  ⟨some 51, .p (.mov (.t 1)), some ⟨50, true⟩⟩,
  ⟨some 52, .p (.mov (.t 51)), some ⟨50, true⟩⟩,
  ⟨some 53, .p (.mov (.t 11)), some ⟨52, true⟩⟩,
  ⟨some 54, .p (.bin 3 .eql (.t 53) (ci_ 1)), some ⟨52, true⟩⟩,
  ⟨some 55, .p (.pick (.t 52) (.t 54) (.c (.bool false))), some ⟨50, true⟩⟩,
  ⟨some 56, .p (.mov (.t 55)), some ⟨50, true⟩⟩,
  ⟨some 57, .p (.idxAA 16 1 (.t 7) (ci_ 1)), some ⟨56, true⟩⟩,
  ⟨some 58, .p (.load false 1 (.t 57)), some ⟨56, true⟩⟩,
  ⟨some 59, .p (.bin 3 .eql (.t 58) (ci_ 1)), some ⟨56, true⟩⟩,
  ⟨some 60, .p (.pick (.t 56) (.t 59) (.c (.bool false))), some ⟨50, true⟩⟩,
  ⟨some 61, .p (.un .not (.t 60)), some ⟨50, true⟩⟩,
  po_ 62 (.pick (.t 50) (.t 61) (.c (.bool false))),
  mv_ 63 62,
  ⟨some 64, .p (.mov (.t 2)), some ⟨63, true⟩⟩,
  ⟨some 65, .p (.mov (.t 64)), some ⟨63, true⟩⟩,
  ⟨some 66, .p (.mov (.t 11)), some ⟨65, true⟩⟩,
  ⟨some 67, .p (.bin 3 .eql (.t 66) (ci_ 0)), some ⟨65, true⟩⟩,
  ⟨some 68, .p (.pick (.t 65) (.t 67) (.c (.bool false))), some ⟨63, true⟩⟩,
  ⟨some 69, .p (.un .not (.t 68)), some ⟨63, true⟩⟩,
  po_ 70 (.pick (.t 63) (.t 69) (.c (.bool false)))] [0, 7, 70])
 (.cond (.t 70)
 (.pops [po_ 71 (.iface 28 (ci_ 10)),
   ⟨none, .s (.pan (.t 71)), none⟩] [0, 7])
 (.skip)))
 c_deflate_grow_k18
def c_deflate_grow_k20 : VCode := .seq (.seq (.ops [po_ 12 (.mov (ci_ 1))] [0, 1, 2, 7, 10, 11, 12])
 c_deflate_grow_k4)
 c_deflate_grow_k19
def c_deflate_grow_k21 : VCode := .seq (.ops [po_ 10 (.mov (ci_ 1)),
  po_ 11 (.mov (ci_ 0))] [0, 1, 2, 7, 10, 11])
 c_deflate_grow_k20
def c_deflate_grow_k22 : VCode := .seq (.seq (.ops [mv_ 18 0,
  po_ 19 (.lenV (.t 18)),
  po_ 20 (.mov (ci_ 0))] [0, 1, 2, 7, 18, 19, 20])
 (.block 0 (.loop [0, 1, 2, 7, 18, 19, 20] c_deflate_grow_L1)))
 c_deflate_grow_k21
def c_deflate_grow_k23 : VCode := .seq (.ops [so_ 7 (.alloc (.arr 16 1 [.val (.int .i64 ((0 : Nat) : Int)), .val (.int .i64 ((0 : Nat) : Int)), .val (.int .i64 ((0 : Nat) : Int)), .val (.int .i64 ((0 : Nat) : Int)), .val (.int .i64 ((0 : Nat) : Int)), .val (.int .i64 ((0 : Nat) : Int)), .val (.int .i64 ((0 : Nat) : Int)), .val (.int .i64 ((0 : Nat) : Int)), .val (.int .i64 ((0 : Nat) : Int)), .val (.int .i64 ((0 : Nat) : Int)), .val (.int .i64 ((0 : Nat) : Int)), .val (.int .i64 ((0 : Nat) : Int)), .val (.int .i64 ((0 : Nat) : Int)), .val (.int .i64 ((0 : Nat) : Int)), .val (.int .i64 ((0 : Nat) : Int)), .val (.int .i64 ((0 : Nat) : Int))]))] [0, 1, 2, 7])
 c_deflate_grow_k22
def c_deflate_grow : VCode := .seq (.ops [po_ 6 (.mov (.c (.slice none 0 0)))] [0, 1, 2])
 c_deflate_grow_k23
def r_deflate_grow : List VR := [.tmp 6]
theorem t_deflate_grow : Tryd.f28.body.bind (trC Tryd.prog Tryd.f28.ntmps) = some (er c_deflate_grow) := by kernel_rfl
theorem w_deflate_grow : trR Tryd.prog Tryd.f28.results.toList = some r_deflate_grow := by kernel_rfl
def u_deflate_grow_L1_e := code_eq c_deflate_grow_L1.eq_1
def u_deflate_grow_k2_e := code_eq c_deflate_grow_k2.eq_1
def u_deflate_grow_L3_e := code_eq c_deflate_grow_L3.eq_1
def u_deflate_grow_k4_e := code_eq c_deflate_grow_k4.eq_1
def u_deflate_grow_k5_e := code_eq c_deflate_grow_k5.eq_1
def u_deflate_grow_L6_e := code_eq c_deflate_grow_L6.eq_1
def u_deflate_grow_k7_e := code_eq c_deflate_grow_k7.eq_1
def u_deflate_grow_b8_e := code_eq c_deflate_grow_b8.eq_1
def u_deflate_grow_k9_e := code_eq c_deflate_grow_k9.eq_1
def u_deflate_grow_k10_e := code_eq c_deflate_grow_k10.eq_1
def u_deflate_grow_k11_e := code_eq c_deflate_grow_k11.eq_1
def u_deflate_grow_L12_e := code_eq c_deflate_grow_L12.eq_1
def u_deflate_grow_k13_e := code_eq c_deflate_grow_k13.eq_1
def u_deflate_grow_k14_e := code_eq c_deflate_grow_k14.eq_1
def u_deflate_grow_k15_e := code_eq c_deflate_grow_k15.eq_1
def u_deflate_grow_k16_e := code_eq c_deflate_grow_k16.eq_1
def u_deflate_grow_k17_e := code_eq c_deflate_grow_k17.eq_1
def u_deflate_grow_k18_e := code_eq c_deflate_grow_k18.eq_1
def u_deflate_grow_k19_e := code_eq c_deflate_grow_k19.eq_1
def u_deflate_grow_k20_e := code_eq c_deflate_grow_k20.eq_1
def u_deflate_grow_k21_e := code_eq c_deflate_grow_k21.eq_1
def u_deflate_grow_k22_e := code_eq c_deflate_grow_k22.eq_1
def u_deflate_grow_k23_e := code_eq c_deflate_grow_k23.eq_1
def u_deflate_grow_e := code_eq c_deflate_grow.eq_1
theorem u_deflate_grow_r {K : TV → Prop} {e : Env} {H : List Ob} : res r_deflate_grow e H K = res [.tmp 6] e H K := by_refl rfl
def u_deflate_grow := (And.intro (And.intro (And.intro (And.intro (And.intro @u_deflate_grow_L1_e @u_deflate_grow_k2_e) (And.intro @u_deflate_grow_L3_e @u_deflate_grow_k4_e)) (And.intro (And.intro @u_deflate_grow_k5_e @u_deflate_grow_L6_e) (And.intro @u_deflate_grow_k7_e @u_deflate_grow_b8_e))) (And.intro (And.intro (And.intro @u_deflate_grow_k9_e @u_deflate_grow_k10_e) (And.intro @u_deflate_grow_k11_e @u_deflate_grow_L12_e)) (And.intro (And.intro @u_deflate_grow_k13_e @u_deflate_grow_k14_e) (And.intro @u_deflate_grow_k15_e @u_deflate_grow_k16_e)))) (And.intro (And.intro (And.intro (And.intro @u_deflate_grow_k17_e @u_deflate_grow_k18_e) (And.intro @u_deflate_grow_k19_e @u_deflate_grow_k20_e)) (And.intro (And.intro @u_deflate_grow_k21_e @u_deflate_grow_k22_e) (And.intro @u_deflate_grow_k23_e @u_deflate_grow_e))) @u_deflate_grow_r))
def gp_deflate_grow := gp_of 111 Tryd.func28 t_deflate_grow w_deflate_grow rfl

def c_deflate_reader_symbols_b1 : VCode := .seq (.ops [mv_ 21 6,
  po_ 22 (.bin 3 .eql (.t 21) (ci_ 256)),
  mv_ 20 22] [0, 1, 2, 6, 20])
 (.cond (.t 20)
 (.ret)
 (.seq (.ops [mv_ 24 6,
   po_ 25 (.bin 3 .gtr (.t 24) (ci_ 285)),
   mv_ 23 25] [0, 1, 2, 6, 23])
  (.cond (.t 23)
  (.pops [po_ 26 (.iface 28 (ci_ 10)),
    ⟨none, .s (.pan (.t 26)), none⟩] [0, 1, 2, 6])
  (.skip))))
def c_deflate_reader_symbols_k2 : VCode := .seq (.block 4 (.pdraw 5 [mv_ 70 0,
  mv_ 71 0,
  po_ 72 (.nilc (.t 71)),
  po_ 73 (.fieldA 3 3 (.t 72)),
  po_ 74 (.load false 1 (.t 73)),
  mv_ 75 0,
  po_ 76 (.nilc (.t 75)),
  po_ 77 (.fieldA 3 3 (.t 76)),
  po_ 78 (.load false 1 (.t 77)),
  po_ 79 (.lenV (.t 78)),
  mv_ 80 9,
  po_ 81 (.bin 3 .sub (.t 79) (.t 80)),
  po_ 82 (.idxA 1 (.t 74) (.t 81)),
  po_ 83 (.load false 1 (.t 82)),
  so_ 84 (.call 25 [.t 70, .t 83])] [0, 1, 2, 9, 67, 68]))
 (.ops [po_ 85 (.bin 3 .add (.t 68) (ci_ 1)),
  mv_ 68 85] [0, 1, 2, 9, 67, 68])
def c_deflate_reader_symbols_k3 : VCode := .seq (.cond (.t 69)
 (.skip)
 (.exit 3))
 c_deflate_reader_symbols_k2
def c_deflate_reader_symbols_L4 : VCode := .seq (.ops [po_ 69 (.bin 3 .lss (.t 68) (.t 67))] [0, 1, 2, 9, 67, 68, 69])
 c_deflate_reader_symbols_k3
def c_deflate_reader_symbols_k5 : VCode := .block 3 (.loop [0, 1, 2, 9, 67, 68] c_deflate_reader_symbols_L4)
def c_deflate_reader_symbols_k6 : VCode := .seq (.ops [mv_ 67 8,
  po_ 68 (.mov (ci_ 0))] [0, 1, 2, 9, 67, 68])
 c_deflate_reader_symbols_k5
def c_deflate_reader_symbols_k7 : VCode := .seq (.seq (.ops [mv_ 51 9,
  mv_ 52 0,
  po_ 53 (.nilc (.t 52)),
  po_ 54 (.fieldA 3 3 (.t 53)),
  po_ 55 (.load false 1 (.t 54)),
  po_ 56 (.lenV (.t 55)),
  po_ 57 (.bin 3 .gtr (.t 51) (.t 56)),
  mv_ 58 57,
  ⟨some 59, .p (.mov (.t 9)), some ⟨58, false⟩⟩,
  ⟨some 60, .p (.mov (.t 0)), some ⟨58, false⟩⟩,
  ⟨some 61, .p (.nilc (.t 60)), some ⟨58, false⟩⟩,
  ⟨some 62, .p (.fieldA 5 5 (.t 61)), some ⟨58, false⟩⟩,
  ⟨some 63, .p (.load false 1 (.t 62)), some ⟨58, false⟩⟩,
  ⟨some 64, .p (.bin 3 .gtr (.t 59) (.t 63)), some ⟨58, false⟩⟩,
  po_ 65 (.pick (.t 58) (.c (.bool true)) (.t 64))] [0, 1, 2, 8, 9, 65])
 (.cond (.t 65)
 (.pops [po_ 66 (.iface 28 (ci_ 10)),
   ⟨none, .s (.pan (.t 66)), none⟩] [0, 1, 2, 8, 9])
 (.skip)))
 c_deflate_reader_symbols_k6
def c_deflate_reader_symbols_k8 : VCode := .seq (.sdraw 3 [po_ 44 (.fieldA 0 0 (.t 7)),
  po_ 45 (.load false 1 (.t 44)),
  mv_ 46 0,
  po_ 47 (.fieldA 1 1 (.t 7)),
  po_ 48 (.load false 1 (.t 47)),
  so_ 49 (.call 24 [.t 46, .t 48]),
  po_ 50 (.bin 3 .add (.t 45) (.t 49)),
  mv_ 9 50] [0, 1, 2, 8, 9])
 c_deflate_reader_symbols_k7
def c_deflate_reader_symbols_k9 : VCode := .seq (.ops [mv_ 42 6,
  so_ 43 (.call 45 [.t 42]),
  ⟨none, .s (.store 2 (.t 7) (.t 43)), none⟩] [0, 1, 2, 7, 8])
 c_deflate_reader_symbols_k8
def c_deflate_reader_symbols_k10 : VCode := .seq (.seq (.ops [mv_ 39 6,
  po_ 40 (.bin 3 .gtr (.t 39) (ci_ 29))] [0, 1, 2, 6, 7, 8, 40])
 (.cond (.t 40)
 (.pops [po_ 41 (.iface 28 (ci_ 10)),
   ⟨none, .s (.pan (.t 41)), none⟩] [0, 1, 2, 6, 7, 8])
 (.skip)))
 c_deflate_reader_symbols_k9
def c_deflate_reader_symbols_k11 : VCode := .seq (.pops [mv_ 36 0,
  mv_ 37 2,
  so_ 38 (.call 48 [.t 36, .t 37]),
  mv_ 6 38] [0, 1, 2, 6, 7, 8])
 c_deflate_reader_symbols_k10
def c_deflate_reader_symbols_k12 : VCode := .seq (.sdraw 3 [po_ 29 (.fieldA 0 0 (.t 7)),
  po_ 30 (.load false 1 (.t 29)),
  mv_ 31 0,
  po_ 32 (.fieldA 1 1 (.t 7)),
  po_ 33 (.load false 1 (.t 32)),
  so_ 34 (.call 24 [.t 31, .t 33]),
  po_ 35 (.bin 3 .add (.t 30) (.t 34)),
  mv_ 8 35] [0, 1, 2, 7, 8])
 c_deflate_reader_symbols_k11
def c_deflate_reader_symbols_k13 : VCode := .seq (.ops [mv_ 27 6,
  so_ 28 (.call 44 [.t 27]),
  so_ 7 (.alloc (.agg [.val (.int .i64 ((0 : Nat) : Int)), .val (.int .i64 ((0 : Nat) : Int))])),
  ⟨none, .s (.store 2 (.t 7) (.t 28)), none⟩] [0, 1, 2, 7])
 c_deflate_reader_symbols_k12
def c_deflate_reader_symbols_k14 : VCode := .seq (.block 2 (.seq (.ops [mv_ 14 6,
  po_ 15 (.bin 3 .lss (.t 14) (ci_ 256)),
  mv_ 13 15] [0, 1, 2, 6, 13])
 (.cond (.t 13)
 (.seq (.pops [mv_ 16 0,
   mv_ 17 6,
   po_ 18 (.conv .u8 (.t 17)),
   so_ 19 (.call 25 [.t 16, .t 18])] [0, 1, 2])
  (.exit 1))
 c_deflate_reader_symbols_b1)))
 c_deflate_reader_symbols_k13
def c_deflate_reader_symbols_L15 : VCode := .block 1 (.seq (.pops [mv_ 10 0,
  mv_ 11 1,
  so_ 12 (.call 48 [.t 10, .t 11]),
  mv_ 6 12] [0, 1, 2, 6])
 c_deflate_reader_symbols_k14)
def c_deflate_reader_symbols : VCode := .block 0 (.loop [0, 1, 2] c_deflate_reader_symbols_L15)
def r_deflate_reader_symbols : List VR := []
theorem t_deflate_reader_symbols : Tryd.f27.body.bind (trC Tryd.prog Tryd.f27.ntmps) = some (er c_deflate_reader_symbols) := by kernel_rfl
theorem w_deflate_reader_symbols : trR Tryd.prog Tryd.f27.results.toList = some r_deflate_reader_symbols := by kernel_rfl
def u_deflate_reader_symbols_b1_e := code_eq c_deflate_reader_symbols_b1.eq_1
def u_deflate_reader_symbols_k2_e := code_eq c_deflate_reader_symbols_k2.eq_1
def u_deflate_reader_symbols_k3_e := code_eq c_deflate_reader_symbols_k3.eq_1
def u_deflate_reader_symbols_L4_e := code_eq c_deflate_reader_symbols_L4.eq_1
def u_deflate_reader_symbols_k5_e := code_eq c_deflate_reader_symbols_k5.eq_1
def u_deflate_reader_symbols_k6_e := code_eq c_deflate_reader_symbols_k6.eq_1
def u_deflate_reader_symbols_k7_e := code_eq c_deflate_reader_symbols_k7.eq_1
def u_deflate_reader_symbols_k8_e := code_eq c_deflate_reader_symbols_k8.eq_1
def u_deflate_reader_symbols_k9_e := code_eq c_deflate_reader_symbols_k9.eq_1
def u_deflate_reader_symbols_k10_e := code_eq c_deflate_reader_symbols_k10.eq_1
def u_deflate_reader_symbols_k11_e := code_eq c_deflate_reader_symbols_k11.eq_1
def u_deflate_reader_symbols_k12_e := code_eq c_deflate_reader_symbols_k12.eq_1
def u_deflate_reader_symbols_k13_e := code_eq c_deflate_reader_symbols_k13.eq_1
def u_deflate_reader_symbols_k14_e := code_eq c_deflate_reader_symbols_k14.eq_1
def u_deflate_reader_symbols_L15_e := code_eq c_deflate_reader_symbols_L15.eq_1
def u_deflate_reader_symbols_e := code_eq c_deflate_reader_symbols.eq_1
theorem u_deflate_reader_symbols_r {K : TV → Prop} {e : Env} {H : List Ob} : res r_deflate_reader_symbols e H K = res [] e H K := by_refl rfl
def u_deflate_reader_symbols := (And.intro (And.intro (And.intro (And.intro (And.intro @u_deflate_reader_symbols_b1_e @u_deflate_reader_symbols_k2_e) (And.intro @u_deflate_reader_symbols_k3_e @u_deflate_reader_symbols_L4_e)) (And.intro (And.intro @u_deflate_reader_symbols_k5_e @u_deflate_reader_symbols_k6_e) (And.intro @u_deflate_reader_symbols_k7_e @u_deflate_reader_symbols_k8_e))) (And.intro (And.intro (And.intro @u_deflate_reader_symbols_k9_e @u_deflate_reader_symbols_k10_e) (And.intro @u_deflate_reader_symbols_k11_e @u_deflate_reader_symbols_k12_e)) (And.intro (And.intro @u_deflate_reader_symbols_k13_e @u_deflate_reader_symbols_k14_e) (And.intro @u_deflate_reader_symbols_L15_e @u_deflate_reader_symbols_e)))) @u_deflate_reader_symbols_r)
def gp_deflate_reader_symbols := gp_of 86 Tryd.func27 t_deflate_reader_symbols w_deflate_reader_symbols rfl

def c_deflate_reader_told_L1 : VCode := .seq (.ops [po_ 35 (.bin 3 .lss (.t 34) (.t 33))] [0, 4, 5, 7, 32, 33, 34, 35])
 (.seq (.cond (.t 35)
 (.skip)
 (.exit 0))
 (.seq (.block 1 (.seq (.ops [po_ 36 (.idxA 1 (.t 32) (.t 34)),
  po_ 37 (.load false 1 (.t 36)),
  mv_ 9 37] [0, 4, 5, 7, 9, 32, 33, 34])
 (.pops [mv_ 38 7,
  mv_ 39 9,
  mv_ 40 0,
  so_ 41 (.call 24 [.t 40, .c (.int .i64 ((3 : Nat) : Int))]),
  po_ 42 (.idxA 1 (.t 38) (.t 39)),
  ⟨none, .s (.store 1 (.t 42) (.t 41)), none⟩] [0, 4, 5, 7, 32, 33, 34])))
 (.ops [po_ 43 (.bin 3 .add (.t 34) (ci_ 1)),
  mv_ 34 43] [0, 4, 5, 7, 32, 33, 34])))
def c_deflate_reader_told_b2 : VCode := .seq (.seq (.ops [mv_ 58 11,
  po_ 59 (.lenV (.t 58)),
  po_ 60 (.bin 3 .eql (.t 59) (ci_ 0))] [0, 4, 5, 10, 11, 60])
 (.cond (.t 60)
 (.pops [po_ 61 (.iface 28 (ci_ 10)),
   ⟨none, .s (.pan (.t 61)), none⟩] [0, 4, 5, 10, 11])
 (.skip)))
 (.sdraw 6 [mv_ 62 11,
  mv_ 63 11,
  po_ 64 (.lenV (.t 63)),
  po_ 65 (.bin 3 .sub (.t 64) (ci_ 1)),
  po_ 66 (.idxA 1 (.t 62) (.t 65)),
  po_ 67 (.load false 1 (.t 66)),
  mv_ 68 0,
  so_ 69 (.call 24 [.t 68, .c (.int .i64 ((2 : Nat) : Int))]),
  po_ 70 (.bin 3 .add (ci_ 3) (.t 69)),
  mv_ 12 67,
  mv_ 13 70] [0, 4, 5, 10, 11, 12, 13])
def c_deflate_reader_told_b3 : VCode := .seq (.ops [po_ 77 (.bin 3 .eql (.t 55) (ci_ 18)),
  mv_ 76 77] [0, 4, 5, 10, 11, 12, 13, 76])
 (.cond (.t 76)
 (.pops [mv_ 78 0,
   so_ 79 (.call 24 [.t 78, .c (.int .i64 ((7 : Nat) : Int))]),
   po_ 80 (.bin 3 .add (ci_ 11) (.t 79)),
   po_ 12 (.mov (ci_ 0)),
   mv_ 13 80] [0, 4, 5, 10, 11, 12, 13])
 (.skip))
def c_deflate_reader_told_b4 : VCode := .seq (.ops [po_ 72 (.bin 3 .eql (.t 55) (ci_ 17)),
  mv_ 71 72] [0, 4, 5, 10, 11, 12, 13, 55, 71])
 (.cond (.t 71)
 (.pops [mv_ 73 0,
   so_ 74 (.call 24 [.t 73, .c (.int .i64 ((3 : Nat) : Int))]),
   po_ 75 (.bin 3 .add (ci_ 3) (.t 74)),
   po_ 12 (.mov (ci_ 0)),
   mv_ 13 75] [0, 4, 5, 10, 11, 12, 13])
 c_deflate_reader_told_b3)
def c_deflate_reader_told_k5 : VCode := .cond (.t 56)
 c_deflate_reader_told_b2
 c_deflate_reader_told_b4
def c_deflate_reader_told_k6 : VCode := .block 4 (.seq (.ops [po_ 57 (.bin 3 .eql (.t 55) (ci_ 16)),
  mv_ 56 57] [0, 4, 5, 10, 11, 12, 13, 55, 56])
 c_deflate_reader_told_k5)
def c_deflate_reader_told_L7 : VCode := .seq (.ops [po_ 92 (.bin 3 .lss (.t 91) (.t 90))] [0, 4, 5, 10, 11, 12, 90, 91, 92])
 (.seq (.cond (.t 92)
 (.skip)
 (.exit 5))
 (.seq (.block 6 (.ops [mv_ 93 11,
  mv_ 94 12,
  ⟨some 95, .s (.bslice 1 1 (.val (.int .i64 ((0 : Nat) : Int))) [⟨0, .t 94⟩]), none⟩,
  so_ 96 (.app 1 8 3 (.t 93) (.t 95)),
  mv_ 11 96] [0, 4, 5, 10, 11, 12, 90, 91]))
 (.ops [po_ 97 (.bin 3 .add (.t 91) (ci_ 1)),
  mv_ 91 97] [0, 4, 5, 10, 11, 12, 90, 91])))
def c_deflate_reader_told_k8 : VCode := .seq (.seq (.ops [mv_ 81 11,
  po_ 82 (.lenV (.t 81)),
  mv_ 83 13,
  po_ 84 (.bin 3 .add (.t 82) (.t 83)),
  mv_ 85 4,
  mv_ 86 5,
  po_ 87 (.bin 3 .add (.t 85) (.t 86)),
  po_ 88 (.bin 3 .gtr (.t 84) (.t 87))] [0, 4, 5, 10, 11, 12, 13, 88])
 (.cond (.t 88)
 (.pops [po_ 89 (.iface 28 (ci_ 10)),
   ⟨none, .s (.pan (.t 89)), none⟩] [0, 4, 5, 10, 11, 12, 13])
 (.skip)))
 (.seq (.ops [mv_ 90 13,
  po_ 91 (.mov (ci_ 0))] [0, 4, 5, 10, 11, 12, 90, 91])
 (.block 5 (.own 11 1 (.loop [0, 4, 5, 10, 11, 12, 90, 91] c_deflate_reader_told_L7))))
def c_deflate_reader_told_k9 : VCode := .seq (.seq (.ops [mv_ 55 12] [0, 4, 5, 10, 11, 12, 13, 55])
 c_deflate_reader_told_k6)
 c_deflate_reader_told_k8
def c_deflate_reader_told_k10 : VCode := .block 3 (.seq (.pops [mv_ 52 0,
  mv_ 53 10,
  so_ 54 (.call 48 [.t 52, .t 53]),
  mv_ 12 54,
  po_ 13 (.mov (ci_ 1))] [0, 4, 5, 10, 11, 12, 13])
 c_deflate_reader_told_k9)
def c_deflate_reader_told_L11 : VCode := .seq (.seq (.ops [mv_ 46 11,
  po_ 47 (.lenV (.t 46)),
  mv_ 48 4,
  mv_ 49 5,
  po_ 50 (.bin 3 .add (.t 48) (.t 49)),
  po_ 51 (.bin 3 .lss (.t 47) (.t 50))] [0, 4, 5, 10, 11, 51])
 (.cond (.t 51)
 (.skip)
 (.exit 2)))
 c_deflate_reader_told_k10
def c_deflate_reader_told_k12 : VCode := .frz 11 (.seq (.seq (.ops [mv_ 98 11,
  po_ 99 (.idxA 1 (.t 98) (ci_ 256)),
  po_ 100 (.load false 1 (.t 99)),
  po_ 101 (.bin 3 .eql (.t 100) (ci_ 0))] [4, 11, 101])
 (.cond (.t 101)
 (.pops [po_ 102 (.iface 28 (ci_ 10)),
   ⟨none, .s (.pan (.t 102)), none⟩] [4, 11])
 (.skip)))
 (.seq (.draw 4 [mv_ 103 11,
  mv_ 104 4,
  mv_ 105 4,
  po_ 106 (.gen (.sl3 1) [.t 103, .c (.int .i64 ((0 : Nat) : Int)), .t 104, .t 105]),
  mv_ 107 11,
  mv_ 108 4,
  po_ 109 (.slV 1 (.t 107) (some (.t 108)) none),
  mv_ 2 106,
  mv_ 3 109] [2, 3])
 (.ret)))
def c_deflate_reader_told_k13 : VCode := .seq (.block 2 (.own 11 1 (.loop [0, 4, 5, 10, 11] c_deflate_reader_told_L11)))
 c_deflate_reader_told_k12
def c_deflate_reader_told_k14 : VCode := .seq (.ops [po_ 11 (.mov (.c (.slice none 0 0)))] [0, 4, 5, 10, 11])
 c_deflate_reader_told_k13
def c_deflate_reader_told_k15 : VCode := .seq (.pops [mv_ 44 7,
  so_ 45 (.call 28 [.t 44, .c (.bool false), .c (.bool false)]),
  mv_ 10 45] [0, 4, 5, 10])
 c_deflate_reader_told_k14
def c_deflate_reader_told_k16 : VCode := .seq (.seq (.ops [mv_ 31 6,
  po_ 32 (.slA 19 1 (.g 1) none (some (.t 31))),
  po_ 33 (.lenV (.t 32)),
  po_ 34 (.mov (ci_ 0))] [0, 4, 5, 7, 32, 33, 34])
 (.block 0 (.loop [0, 4, 5, 7, 32, 33, 34] c_deflate_reader_told_L1)))
 c_deflate_reader_told_k15
def c_deflate_reader_told_k17 : VCode := .seq (.ops [so_ 30 (.mks 1 8 (.val (.int .i64 ((0 : Nat) : Int))) (ci_ 19) (ci_ 19)),
  mv_ 7 30] [0, 4, 5, 6, 7])
 c_deflate_reader_told_k16
def c_deflate_reader_told_k18 : VCode := .seq (.seq (.ops [mv_ 23 4,
  po_ 24 (.bin 3 .gtr (.t 23) (ci_ 286)),
  mv_ 25 24,
  ⟨some 26, .p (.mov (.t 5)), some ⟨25, false⟩⟩,
  ⟨some 27, .p (.bin 3 .gtr (.t 26) (ci_ 30)), some ⟨25, false⟩⟩,
  po_ 28 (.pick (.t 25) (.c (.bool true)) (.t 27))] [0, 4, 5, 6, 28])
 (.cond (.t 28)
 (.pops [po_ 29 (.iface 28 (ci_ 10)),
   ⟨none, .s (.pan (.t 29)), none⟩] [0, 4, 5, 6])
 (.skip)))
 c_deflate_reader_told_k17
def c_deflate_reader_told_k19 : VCode := .seq (.pops [mv_ 14 0,
  so_ 15 (.call 24 [.t 14, .c (.int .i64 ((5 : Nat) : Int))]),
  po_ 16 (.bin 3 .add (.t 15) (ci_ 257)),
  mv_ 17 0,
  so_ 18 (.call 24 [.t 17, .c (.int .i64 ((5 : Nat) : Int))]),
  po_ 19 (.bin 3 .add (.t 18) (ci_ 1)),
  mv_ 20 0,
  so_ 21 (.call 24 [.t 20, .c (.int .i64 ((4 : Nat) : Int))]),
  po_ 22 (.bin 3 .add (.t 21) (ci_ 4)),
  mv_ 4 16,
  mv_ 5 19,
  mv_ 6 22] [0, 4, 5, 6])
 c_deflate_reader_told_k18
def c_deflate_reader_told : VCode := .seq (.ops [po_ 2 (.mov (.c (.slice none 0 0))),
  po_ 3 (.mov (.c (.slice none 0 0)))] [0])
 c_deflate_reader_told_k19
def r_deflate_reader_told : List VR := [.tmp 2, .tmp 3]
theorem t_deflate_reader_told : Tryd.f29.body.bind (trC Tryd.prog Tryd.f29.ntmps) = some (er c_deflate_reader_told) := by kernel_rfl
theorem w_deflate_reader_told : trR Tryd.prog Tryd.f29.results.toList = some r_deflate_reader_told := by kernel_rfl
def u_deflate_reader_told_L1_e := code_eq c_deflate_reader_told_L1.eq_1
def u_deflate_reader_told_b2_e := code_eq c_deflate_reader_told_b2.eq_1
def u_deflate_reader_told_b3_e := code_eq c_deflate_reader_told_b3.eq_1
def u_deflate_reader_told_b4_e := code_eq c_deflate_reader_told_b4.eq_1
def u_deflate_reader_told_k5_e := code_eq c_deflate_reader_told_k5.eq_1
def u_deflate_reader_told_k6_e := code_eq c_deflate_reader_told_k6.eq_1
def u_deflate_reader_told_L7_e := code_eq c_deflate_reader_told_L7.eq_1
def u_deflate_reader_told_k8_e := code_eq c_deflate_reader_told_k8.eq_1
def u_deflate_reader_told_k9_e := code_eq c_deflate_reader_told_k9.eq_1
def u_deflate_reader_told_k10_e := code_eq c_deflate_reader_told_k10.eq_1
def u_deflate_reader_told_L11_e := code_eq c_deflate_reader_told_L11.eq_1
def u_deflate_reader_told_k12_e := code_eq c_deflate_reader_told_k12.eq_1
def u_deflate_reader_told_k13_e := code_eq c_deflate_reader_told_k13.eq_1
def u_deflate_reader_told_k14_e := code_eq c_deflate_reader_told_k14.eq_1
def u_deflate_reader_told_k15_e := code_eq c_deflate_reader_told_k15.eq_1
def u_deflate_reader_told_k16_e := code_eq c_deflate_reader_told_k16.eq_1
def u_deflate_reader_told_k17_e := code_eq c_deflate_reader_told_k17.eq_1
def u_deflate_reader_told_k18_e := code_eq c_deflate_reader_told_k18.eq_1
def u_deflate_reader_told_k19_e := code_eq c_deflate_reader_told_k19.eq_1
def u_deflate_reader_told_e := code_eq c_deflate_reader_told.eq_1
theorem u_deflate_reader_told_r {K : TV → Prop} {e : Env} {H : List Ob} : res r_deflate_reader_told e H K = res [.tmp 2, .tmp 3] e H K := by_refl rfl
def u_deflate_reader_told := (And.intro (And.intro (And.intro (And.intro (And.intro @u_deflate_reader_told_L1_e @u_deflate_reader_told_b2_e) (And.intro @u_deflate_reader_told_b3_e @u_deflate_reader_told_b4_e)) (And.intro (And.intro @u_deflate_reader_told_k5_e @u_deflate_reader_told_k6_e) (And.intro @u_deflate_reader_told_L7_e @u_deflate_reader_told_k8_e))) (And.intro (And.intro (And.intro @u_deflate_reader_told_k9_e @u_deflate_reader_told_k10_e) (And.intro @u_deflate_reader_told_L11_e @u_deflate_reader_told_k12_e)) (And.intro (And.intro @u_deflate_reader_told_k13_e @u_deflate_reader_told_k14_e) (And.intro @u_deflate_reader_told_k15_e @u_deflate_reader_told_k16_e)))) (And.intro (And.intro (And.intro @u_deflate_reader_told_k17_e @u_deflate_reader_told_k18_e) (And.intro @u_deflate_reader_told_k19_e @u_deflate_reader_told_e)) @u_deflate_reader_told_r))
def gp_deflate_reader_told := gp_of 110 Tryd.func29 t_deflate_reader_told w_deflate_reader_told rfl

def c_deflate_tree_add_k1 : VCode := .draw 10 [mv_ 37 0,
  po_ 38 (.nilc (.t 37)),
  po_ 39 (.load false 1 (.t 38)),
  mv_ 40 8,
  mv_ 41 9,
  mv_ 42 0,
  po_ 43 (.nilc (.t 42)),
  po_ 44 (.load false 1 (.t 43)),
  po_ 45 (.lenV (.t 44)),
  po_ 46 (.bin 3 .sub (.t 45) (ci_ 1)),
  po_ 47 (.idxA 2 (.t 39) (.t 40)),
  po_ 48 (.idxAA 2 1 (.t 47) (.t 41)),
  ⟨none, .s (.store 1 (.t 48) (.t 46)), none⟩] [0, 1, 2, 3, 8, 9]
def c_deflate_tree_add_b2 : VCode := .seq (.ops [mv_ 29 0,
  mv_ 30 0,
  po_ 31 (.nilc (.t 30)),
  po_ 32 (.load false 1 (.t 31)),
  po_ 33 (.buildA 2 1 [.val (.int .i64 ((0 : Nat) : Int)), .val (.int .i64 ((0 : Nat) : Int))] []),
  ⟨some 34, .s (.bslice 2 1 (.arr 2 1 [.val (.int .i64 ((0 : Nat) : Int)), .val (.int .i64 ((0 : Nat) : Int))]) [⟨0, .t 33⟩]), none⟩,
  so_ 35 (.app 2 16 97 (.t 32) (.t 34)),
  po_ 36 (.nilc (.t 29)),
  ⟨none, .s (.store 1 (.t 36) (.t 35)), none⟩] [0, 1, 2, 3, 8, 9])
 c_deflate_tree_add_k1
def c_deflate_tree_add_k3 : VCode := .cond (.t 28)
 c_deflate_tree_add_b2
 (.skip)
def c_deflate_tree_add_k4 : VCode := .seq (.seq (.ops [mv_ 20 0,
  po_ 21 (.nilc (.t 20)),
  po_ 22 (.load false 1 (.t 21)),
  mv_ 23 8,
  mv_ 24 9,
  po_ 25 (.idxA 2 (.t 22) (.t 23)),
  po_ 26 (.idxAA 2 1 (.t 25) (.t 24)),
  po_ 27 (.load false 1 (.t 26)),
  po_ 28 (.bin 3 .eql (.t 27) (ci_ 0))] [0, 1, 2, 3, 8, 9, 28])
 c_deflate_tree_add_k3)
 (.ops [mv_ 49 0,
  po_ 50 (.nilc (.t 49)),
  po_ 51 (.load false 1 (.t 50)),
  mv_ 52 8,
  mv_ 53 9,
  po_ 54 (.idxA 2 (.t 51) (.t 52)),
  po_ 55 (.idxAA 2 1 (.t 54) (.t 53)),
  po_ 56 (.load false 1 (.t 55)),
  mv_ 8 56] [0, 1, 2, 3, 8])
def c_deflate_tree_add_k5 : VCode := .seq (.block 1 (.seq (.ops [mv_ 16 1,
  mv_ 17 2,
  po_ 18 (.bin 3 .shr (.t 16) (.t 17)),
  po_ 19 (.bin 3 .and (.t 18) (ci_ 1)),
  mv_ 9 19] [0, 1, 2, 3, 8, 9])
 c_deflate_tree_add_k4))
 (.ops [mv_ 14 2,
  po_ 15 (.bin 3 .sub (.t 14) (ci_ 1)),
  mv_ 2 15] [0, 1, 2, 3, 8])
def c_deflate_tree_add_L6 : VCode := .seq (.seq (.ops [mv_ 12 2,
  po_ 13 (.bin 3 .gtr (.t 12) (ci_ 0))] [0, 1, 2, 3, 8, 13])
 (.cond (.t 13)
 (.skip)
 (.exit 0)))
 c_deflate_tree_add_k5
def c_deflate_tree_add_k7 : VCode := .block 0 (.ownB 0 [] 2 (.loop [0, 1, 2, 3, 8] c_deflate_tree_add_L6))
def c_deflate_tree_add_k8 : VCode := .ops [mv_ 57 0,
  po_ 58 (.nilc (.t 57)),
  po_ 59 (.load false 1 (.t 58)),
  mv_ 60 8,
  mv_ 61 1,
  po_ 62 (.bin 3 .and (.t 61) (ci_ 1)),
  mv_ 63 3,
  po_ 64 (.bin 3 .sub (.c (.int .i64 (-1))) (.t 63)),
  po_ 65 (.idxA 2 (.t 59) (.t 60)),
  po_ 66 (.idxAA 2 1 (.t 65) (.t 62)),
  ⟨none, .s (.store 1 (.t 66) (.t 64)), none⟩] []
def c_deflate_tree_add_k9 : VCode := .seq (.seq (.ops [mv_ 10 2,
  po_ 11 (.bin 3 .sub (.t 10) (ci_ 1)),
  mv_ 2 11] [0, 1, 2, 3, 8])
 c_deflate_tree_add_k7)
 c_deflate_tree_add_k8
def c_deflate_tree_add : VCode := .seq (.ops [po_ 8 (.mov (ci_ 0))] [0, 1, 2, 3, 8])
 c_deflate_tree_add_k9
def r_deflate_tree_add : List VR := []
theorem t_deflate_tree_add : Tryd.f49.body.bind (trC Tryd.prog Tryd.f49.ntmps) = some (er c_deflate_tree_add) := by kernel_rfl
theorem w_deflate_tree_add : trR Tryd.prog Tryd.f49.results.toList = some r_deflate_tree_add := by kernel_rfl
def u_deflate_tree_add_k1_e := code_eq c_deflate_tree_add_k1.eq_1
def u_deflate_tree_add_b2_e := code_eq c_deflate_tree_add_b2.eq_1
def u_deflate_tree_add_k3_e := code_eq c_deflate_tree_add_k3.eq_1
def u_deflate_tree_add_k4_e := code_eq c_deflate_tree_add_k4.eq_1
def u_deflate_tree_add_k5_e := code_eq c_deflate_tree_add_k5.eq_1
def u_deflate_tree_add_L6_e := code_eq c_deflate_tree_add_L6.eq_1
def u_deflate_tree_add_k7_e := code_eq c_deflate_tree_add_k7.eq_1
def u_deflate_tree_add_k8_e := code_eq c_deflate_tree_add_k8.eq_1
def u_deflate_tree_add_k9_e := code_eq c_deflate_tree_add_k9.eq_1
def u_deflate_tree_add_e := code_eq c_deflate_tree_add.eq_1
theorem u_deflate_tree_add_r {K : TV → Prop} {e : Env} {H : List Ob} : res r_deflate_tree_add e H K = res [] e H K := by_refl rfl
def u_deflate_tree_add := (And.intro (And.intro (And.intro (And.intro @u_deflate_tree_add_k1_e @u_deflate_tree_add_b2_e) (And.intro @u_deflate_tree_add_k3_e @u_deflate_tree_add_k4_e)) (And.intro (And.intro @u_deflate_tree_add_k5_e @u_deflate_tree_add_L6_e) (And.intro @u_deflate_tree_add_k7_e @u_deflate_tree_add_k8_e))) (And.intro (And.intro @u_deflate_tree_add_k9_e @u_deflate_tree_add_e) @u_deflate_tree_add_r))
def go_deflate_tree_add := go_of 67 Tryd.func49 t_deflate_tree_add w_deflate_tree_add rfl

def c_deflate_reader_symbol_L1 : VCode := .block 1 (.seq (.pdraw 4 [mv_ 6 1,
  mv_ 7 5,
  mv_ 8 0,
  po_ 10 (.idxA 2 (.t 6) (.t 7)),
  so_ 9 (.call 24 [.t 8, .c (.int .i64 ((1 : Nat) : Int))]),
  po_ 11 (.idxAA 2 1 (.t 10) (.t 9)),
  po_ 12 (.load false 1 (.t 11)),
  mv_ 5 12] [0, 1, 5])
 (.block 2 (.seq (.ops [mv_ 14 5,
  po_ 15 (.bin 3 .lss (.t 14) (ci_ 0)),
  mv_ 13 15] [0, 1, 5, 13])
 (.cond (.t 13)
 (.seq (.ops [mv_ 16 5,
   po_ 17 (.bin 3 .sub (.c (.int .i64 (-1))) (.t 16)),
   mv_ 4 17] [4])
  (.ret))
 (.seq (.ops [mv_ 19 5,
   po_ 20 (.bin 3 .eql (.t 19) (ci_ 0)),
   mv_ 18 20] [0, 1, 5, 18])
  (.cond (.t 18)
  (.pops [po_ 21 (.iface 28 (ci_ 10)),
    ⟨none, .s (.pan (.t 21)), none⟩] [0, 1, 5])
  (.skip)))))))
def c_deflate_reader_symbol_k2 : VCode := .block 0 (.loop [0, 1, 5] c_deflate_reader_symbol_L1)
def c_deflate_reader_symbol_k3 : VCode := .seq (.ops [po_ 5 (.mov (ci_ 0))] [0, 1, 5])
 c_deflate_reader_symbol_k2
def c_deflate_reader_symbol : VCode := .seq (.ops [po_ 4 (.mov (ci_ 0))] [0, 1])
 c_deflate_reader_symbol_k3
def r_deflate_reader_symbol : List VR := [.tmp 4]
theorem t_deflate_reader_symbol : Tryd.f48.body.bind (trC Tryd.prog Tryd.f48.ntmps) = some (er c_deflate_reader_symbol) := by kernel_rfl
theorem w_deflate_reader_symbol : trR Tryd.prog Tryd.f48.results.toList = some r_deflate_reader_symbol := by kernel_rfl
def u_deflate_reader_symbol_L1_e := code_eq c_deflate_reader_symbol_L1.eq_1
def u_deflate_reader_symbol_k2_e := code_eq c_deflate_reader_symbol_k2.eq_1
def u_deflate_reader_symbol_k3_e := code_eq c_deflate_reader_symbol_k3.eq_1
def u_deflate_reader_symbol_e := code_eq c_deflate_reader_symbol.eq_1
theorem u_deflate_reader_symbol_r {K : TV → Prop} {e : Env} {H : List Ob} : res r_deflate_reader_symbol e H K = res [.tmp 4] e H K := by_refl rfl
def u_deflate_reader_symbol := (And.intro (And.intro (And.intro @u_deflate_reader_symbol_L1_e @u_deflate_reader_symbol_k2_e) (And.intro @u_deflate_reader_symbol_k3_e @u_deflate_reader_symbol_e)) @u_deflate_reader_symbol_r)
def gp_deflate_reader_symbol := gp_of 22 Tryd.func48 t_deflate_reader_symbol w_deflate_reader_symbol rfl

def c_deflate_lengthSpan : VCode := .seq (.ops [so_ 2 (.alloc (.agg [.val (.int .i64 ((0 : Nat) : Int)), .val (.int .i64 ((0 : Nat) : Int))]))] [0, 2])
 (.seq (.seq (.ops [mv_ 3 0,
  po_ 4 (.bin 3 .eql (.t 3) (ci_ 285))] [0, 2, 4])
 (.cond (.t 4)
 (.seq (.ops [⟨some 5, .p (.build [.val (.int .i64 ((0 : Nat) : Int)), .val (.int .i64 ((0 : Nat) : Int))] [1, 1] [⟨0, .c (.int .i64 ((258 : Nat) : Int))⟩, ⟨1, .c (.int .i64 ((0 : Nat) : Int))⟩]), none⟩,
   ⟨none, .s (.store 2 (.t 2) (.t 5)), none⟩] [2])
  (.ret))
 (.skip)))
 (.seq (.ops [mv_ 6 0,
  po_ 7 (.bin 3 .sub (.t 6) (ci_ 257)),
  so_ 8 (.call 58 [.t 7, .c (.int .i64 ((3 : Nat) : Int)), .c (.int .i64 ((4 : Nat) : Int))]),
  ⟨none, .s (.store 2 (.t 2) (.t 8)), none⟩] [2])
 (.ret)))
def r_deflate_lengthSpan : List VR := [.cell 2 true 2]
theorem t_deflate_lengthSpan : Tryd.f44.body.bind (trC Tryd.prog Tryd.f44.ntmps) = some (er c_deflate_lengthSpan) := by kernel_rfl
theorem w_deflate_lengthSpan : trR Tryd.prog Tryd.f44.results.toList = some r_deflate_lengthSpan := by kernel_rfl
def u_deflate_lengthSpan_e := code_eq c_deflate_lengthSpan.eq_1
theorem u_deflate_lengthSpan_r {K : TV → Prop} {e : Env} {H : List Ob} : res r_deflate_lengthSpan e H K = res [.cell 2 true 2] e H K := by_refl rfl
def u_deflate_lengthSpan := (And.intro @u_deflate_lengthSpan_e @u_deflate_lengthSpan_r)
def go_deflate_lengthSpan := go_of 9 Tryd.func44 t_deflate_lengthSpan w_deflate_lengthSpan rfl

def c_deflate_distanceSpan : VCode := .seq (.ops [so_ 2 (.alloc (.agg [.val (.int .i64 ((0 : Nat) : Int)), .val (.int .i64 ((0 : Nat) : Int))]))] [0, 2])
 (.seq (.ops [mv_ 3 0,
  so_ 4 (.call 58 [.t 3, .c (.int .i64 ((1 : Nat) : Int)), .c (.int .i64 ((2 : Nat) : Int))]),
  ⟨none, .s (.store 2 (.t 2) (.t 4)), none⟩] [2])
 (.ret))
def r_deflate_distanceSpan : List VR := [.cell 2 true 2]
theorem t_deflate_distanceSpan : Tryd.f45.body.bind (trC Tryd.prog Tryd.f45.ntmps) = some (er c_deflate_distanceSpan) := by kernel_rfl
theorem w_deflate_distanceSpan : trR Tryd.prog Tryd.f45.results.toList = some r_deflate_distanceSpan := by kernel_rfl
def u_deflate_distanceSpan_e := code_eq c_deflate_distanceSpan.eq_1
theorem u_deflate_distanceSpan_r {K : TV → Prop} {e : Env} {H : List Ob} : res r_deflate_distanceSpan e H K = res [.cell 2 true 2] e H K := by_refl rfl
def u_deflate_distanceSpan := (And.intro @u_deflate_distanceSpan_e @u_deflate_distanceSpan_r)
def go_deflate_distanceSpan := go_of 5 Tryd.func45 t_deflate_distanceSpan w_deflate_distanceSpan rfl

def c_deflate_spanOf_L1 : VCode := .seq (.seq (.ops [mv_ 25 9,
  mv_ 26 7,
  po_ 27 (.bin 3 .lss (.t 25) (.t 26))] [0, 2, 6, 7, 8, 9, 27])
 (.cond (.t 27)
 (.skip)
 (.exit 0)))
 (.seq (.block 1 (.ops [mv_ 30 8,
  mv_ 31 2,
  mv_ 32 9,
  po_ 33 (.bin 3 .shl (.t 31) (.t 32)),
  po_ 34 (.bin 3 .add (.t 30) (.t 33)),
  mv_ 8 34] [0, 2, 6, 7, 8, 9]))
 (.ops [mv_ 28 9,
  po_ 29 (.bin 3 .add (.t 28) (ci_ 1)),
  mv_ 9 29] [0, 2, 6, 7, 8, 9]))
def c_deflate_spanOf_k2 : VCode := .seq (.ops [mv_ 35 8,
  mv_ 36 0,
  mv_ 37 2,
  po_ 38 (.bin 3 .rem (.t 36) (.t 37)),
  mv_ 39 7,
  po_ 40 (.bin 3 .shl (.t 38) (.t 39)),
  po_ 41 (.bin 3 .add (.t 35) (.t 40)),
  mv_ 42 7,
  ⟨some 43, .p (.build [.val (.int .i64 ((0 : Nat) : Int)), .val (.int .i64 ((0 : Nat) : Int))] [1, 1] [⟨0, .t 41⟩, ⟨1, .t 42⟩]), none⟩,
  ⟨none, .s (.store 2 (.t 6) (.t 43)), none⟩] [6])
 (.ret)
def c_deflate_spanOf_k3 : VCode := .seq (.seq (.ops [po_ 9 (.mov (ci_ 1))] [0, 2, 6, 7, 8, 9])
 (.block 0 (.loop [0, 2, 6, 7, 8, 9] c_deflate_spanOf_L1)))
 c_deflate_spanOf_k2
def c_deflate_spanOf_k4 : VCode := .seq (.ops [mv_ 21 1,
  mv_ 22 2,
  po_ 23 (.bin 3 .mul (ci_ 2) (.t 22)),
  po_ 24 (.bin 3 .add (.t 21) (.t 23)),
  mv_ 8 24] [0, 2, 6, 7, 8])
 c_deflate_spanOf_k3
def c_deflate_spanOf_k5 : VCode := .seq (.seq (.ops [mv_ 15 7,
  po_ 16 (.bin 3 .eql (.t 15) (ci_ 0))] [0, 1, 2, 6, 7, 16])
 (.cond (.t 16)
 (.seq (.ops [mv_ 17 1,
   mv_ 18 0,
   po_ 19 (.bin 3 .add (.t 17) (.t 18)),
   ⟨some 20, .p (.build [.val (.int .i64 ((0 : Nat) : Int)), .val (.int .i64 ((0 : Nat) : Int))] [1, 1] [⟨0, .t 19⟩, ⟨1, .c (.int .i64 ((0 : Nat) : Int))⟩]), none⟩,
   ⟨none, .s (.store 2 (.t 6) (.t 20)), none⟩] [6])
  (.ret))
 (.skip)))
 c_deflate_spanOf_k4
def c_deflate_spanOf_k6 : VCode := .seq (.ops [mv_ 10 0,
  mv_ 11 2,
  po_ 12 (.bin 3 .quo (.t 10) (.t 11)),
  po_ 13 (.bin 3 .sub (.t 12) (ci_ 1)),
  po_ 14 (.max (ci_ 0) (.t 13)),
  mv_ 7 14] [0, 1, 2, 6, 7])
 c_deflate_spanOf_k5
def c_deflate_spanOf : VCode := .seq (.ops [so_ 6 (.alloc (.agg [.val (.int .i64 ((0 : Nat) : Int)), .val (.int .i64 ((0 : Nat) : Int))]))] [0, 1, 2, 6])
 c_deflate_spanOf_k6
def r_deflate_spanOf : List VR := [.cell 6 true 2]
theorem t_deflate_spanOf : Tryd.f58.body.bind (trC Tryd.prog Tryd.f58.ntmps) = some (er c_deflate_spanOf) := by kernel_rfl
theorem w_deflate_spanOf : trR Tryd.prog Tryd.f58.results.toList = some r_deflate_spanOf := by kernel_rfl
def u_deflate_spanOf_L1_e := code_eq c_deflate_spanOf_L1.eq_1
def u_deflate_spanOf_k2_e := code_eq c_deflate_spanOf_k2.eq_1
def u_deflate_spanOf_k3_e := code_eq c_deflate_spanOf_k3.eq_1
def u_deflate_spanOf_k4_e := code_eq c_deflate_spanOf_k4.eq_1
def u_deflate_spanOf_k5_e := code_eq c_deflate_spanOf_k5.eq_1
def u_deflate_spanOf_k6_e := code_eq c_deflate_spanOf_k6.eq_1
def u_deflate_spanOf_e := code_eq c_deflate_spanOf.eq_1
theorem u_deflate_spanOf_r {K : TV → Prop} {e : Env} {H : List Ob} : res r_deflate_spanOf e H K = res [.cell 6 true 2] e H K := by_refl rfl
def u_deflate_spanOf := (And.intro (And.intro (And.intro @u_deflate_spanOf_L1_e @u_deflate_spanOf_k2_e) (And.intro @u_deflate_spanOf_k3_e @u_deflate_spanOf_k4_e)) (And.intro (And.intro @u_deflate_spanOf_k5_e @u_deflate_spanOf_k6_e) (And.intro @u_deflate_spanOf_e @u_deflate_spanOf_r)))
def go_deflate_spanOf := go_of 44 Tryd.func58 t_deflate_spanOf w_deflate_spanOf rfl

def c_deflate_Adler_k1 : VCode := .seq (.block 3 (.seq (.ops [po_ 20 (.idxA 1 (.t 16) (.t 18)),
  po_ 21 (.load false 1 (.t 20)),
  mv_ 7 21] [0, 3, 4, 5, 7, 16, 17, 18])
 (.seq (.ops [mv_ 22 3,
  mv_ 23 7,
  po_ 24 (.conv .u32 (.t 23)),
  po_ 25 (.bin 36 .add (.t 22) (.t 24)),
  mv_ 3 25] [0, 3, 4, 5, 16, 17, 18])
 (.ops [mv_ 26 4,
  mv_ 27 3,
  po_ 28 (.bin 36 .add (.t 26) (.t 27)),
  mv_ 4 28] [0, 3, 4, 5, 16, 17, 18]))))
 (.ops [po_ 29 (.bin 3 .add (.t 18) (ci_ 1)),
  mv_ 18 29] [0, 3, 4, 5, 16, 17, 18])
def c_deflate_Adler_k2 : VCode := .seq (.cond (.t 19)
 (.skip)
 (.exit 2))
 c_deflate_Adler_k1
def c_deflate_Adler_L3 : VCode := .seq (.ops [po_ 19 (.bin 3 .lss (.t 18) (.t 17))] [0, 3, 4, 5, 16, 17, 18, 19])
 c_deflate_Adler_k2
def c_deflate_Adler_k4 : VCode := .block 2 (.loop [0, 3, 4, 5, 16, 17, 18] c_deflate_Adler_L3)
def c_deflate_Adler_k5 : VCode := .seq (.ops [mv_ 30 3,
  po_ 31 (.bin 36 .rem (.t 30) (.c (.int .u32 ((65521 : Nat) : Int)))),
  mv_ 3 31] [0, 3, 4, 5])
 (.seq (.ops [mv_ 32 4,
  po_ 33 (.bin 36 .rem (.t 32) (.c (.int .u32 ((65521 : Nat) : Int)))),
  mv_ 4 33] [0, 3, 4, 5])
 (.ops [mv_ 34 0,
  mv_ 35 5,
  po_ 36 (.slV 1 (.t 34) (some (.t 35)) none),
  mv_ 0 36] [0, 3, 4]))
def c_deflate_Adler_k6 : VCode := .seq (.seq (.ops [mv_ 14 0,
  mv_ 15 5,
  po_ 16 (.slV 1 (.t 14) none (some (.t 15))),
  po_ 17 (.lenV (.t 16)),
  po_ 18 (.mov (ci_ 0))] [0, 3, 4, 5, 16, 17, 18])
 c_deflate_Adler_k4)
 c_deflate_Adler_k5
def c_deflate_Adler_k7 : VCode := .block 1 (.seq (.ops [mv_ 11 0,
  po_ 12 (.lenV (.t 11)),
  po_ 13 (.min (.t 12) (ci_ 5000)),
  mv_ 5 13] [0, 3, 4, 5])
 c_deflate_Adler_k6)
def c_deflate_Adler_L8 : VCode := .seq (.seq (.ops [mv_ 8 0,
  po_ 9 (.lenV (.t 8)),
  po_ 10 (.bin 3 .gtr (.t 9) (ci_ 0))] [0, 3, 4, 10])
 (.cond (.t 10)
 (.skip)
 (.exit 0)))
 c_deflate_Adler_k7
def c_deflate_Adler_k9 : VCode := .seq (.ops [mv_ 37 4,
  po_ 38 (.bin 36 .shl (.t 37) (.c (.int .u64 ((16 : Nat) : Int)))),
  mv_ 39 3,
  po_ 40 (.bin 36 .or (.t 38) (.t 39)),
  mv_ 2 40] [2])
 (.ret)
def c_deflate_Adler_k10 : VCode := .seq (.block 0 (.loop [0, 3, 4] c_deflate_Adler_L8))
 c_deflate_Adler_k9
def c_deflate_Adler_k11 : VCode := .seq (.ops [po_ 3 (.mov (.c (.int .u32 ((1 : Nat) : Int)))),
  po_ 4 (.mov (.c (.int .u32 ((0 : Nat) : Int))))] [0, 3, 4])
 c_deflate_Adler_k10
def c_deflate_Adler : VCode := .seq (.ops [po_ 2 (.mov (.c (.int .u32 ((0 : Nat) : Int))))] [0])
 c_deflate_Adler_k11
def r_deflate_Adler : List VR := [.tmp 2]
theorem t_deflate_Adler : Tryd.f17.body.bind (trC Tryd.prog Tryd.f17.ntmps) = some (er c_deflate_Adler) := by kernel_rfl
theorem w_deflate_Adler : trR Tryd.prog Tryd.f17.results.toList = some r_deflate_Adler := by kernel_rfl
def u_deflate_Adler_k1_e := code_eq c_deflate_Adler_k1.eq_1
def u_deflate_Adler_k2_e := code_eq c_deflate_Adler_k2.eq_1
def u_deflate_Adler_L3_e := code_eq c_deflate_Adler_L3.eq_1
def u_deflate_Adler_k4_e := code_eq c_deflate_Adler_k4.eq_1
def u_deflate_Adler_k5_e := code_eq c_deflate_Adler_k5.eq_1
def u_deflate_Adler_k6_e := code_eq c_deflate_Adler_k6.eq_1
def u_deflate_Adler_k7_e := code_eq c_deflate_Adler_k7.eq_1
def u_deflate_Adler_L8_e := code_eq c_deflate_Adler_L8.eq_1
def u_deflate_Adler_k9_e := code_eq c_deflate_Adler_k9.eq_1
def u_deflate_Adler_k10_e := code_eq c_deflate_Adler_k10.eq_1
def u_deflate_Adler_k11_e := code_eq c_deflate_Adler_k11.eq_1
def u_deflate_Adler_e := code_eq c_deflate_Adler.eq_1
theorem u_deflate_Adler_r {K : TV → Prop} {e : Env} {H : List Ob} : res r_deflate_Adler e H K = res [.tmp 2] e H K := by_refl rfl
def u_deflate_Adler := (And.intro (And.intro (And.intro (And.intro @u_deflate_Adler_k1_e @u_deflate_Adler_k2_e) (And.intro @u_deflate_Adler_L3_e @u_deflate_Adler_k4_e)) (And.intro (And.intro @u_deflate_Adler_k5_e @u_deflate_Adler_k6_e) (And.intro @u_deflate_Adler_k7_e @u_deflate_Adler_L8_e))) (And.intro (And.intro (And.intro @u_deflate_Adler_k9_e @u_deflate_Adler_k10_e) (And.intro @u_deflate_Adler_k11_e @u_deflate_Adler_e)) @u_deflate_Adler_r))
def go_deflate_Adler := go_of 41 Tryd.func17 t_deflate_Adler w_deflate_Adler rfl

end Go.Proofs.YtfgljddikcghhaaDoor

