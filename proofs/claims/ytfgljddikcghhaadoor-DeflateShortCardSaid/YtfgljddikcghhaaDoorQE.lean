/- What the proof of DeflateShortCard stands on (texts merged; names shortened by a program): part 5. -/
import Derived.Test.YtfgljddikcghhaaDoorQD
import Derived.Test.YtfgljddikcghhaaDoorProg
import Derived.KernelRfl
namespace Go.Proofs.YtfgljddikcghhaaDoor
variable [AyP]
set_option linter.unusedSectionVars false
set_option linter.unusedVariables false
set_option linter.defProp false
set_option maxRecDepth 100000

def ABD : AyD := .seq (.opsZ [⟨some 18, .s (.bslice 1 2 (.val (.int .u8 ((0 : Nat) : Int))) [⟨0, .c (.int .u8 ((120 : Nat) : Int))⟩, ⟨1, .c (.int .u8 ((156 : Nat) : Int))⟩]), none⟩,
  mv_ 19 3,
  mv_ 20 5,
  po_ 21 (.bin 36 .shr (.t 20) (.c (.int .u64 ((24 : Nat) : Int)))),
  po_ 22 (.conv .u8 (.t 21)),
  mv_ 23 5,
  po_ 24 (.bin 36 .shr (.t 23) (.c (.int .u64 ((16 : Nat) : Int)))),
  po_ 25 (.conv .u8 (.t 24)),
  mv_ 26 5,
  po_ 27 (.bin 36 .shr (.t 26) (.c (.int .u64 ((8 : Nat) : Int)))),
  po_ 28 (.conv .u8 (.t 27)),
  mv_ 29 5,
  po_ 30 (.conv .u8 (.t 29)),
  ⟨some 31, .s (.bslice 1 4 (.val (.int .u8 ((0 : Nat) : Int))) [⟨0, .t 22⟩, ⟨1, .t 25⟩, ⟨2, .t 28⟩, ⟨3, .t 30⟩]), none⟩] [18, 31] [⟨some 32, .s (.bslice 1 3 (.val (.slice none 0 0)) [⟨0, .t 18⟩, ⟨1, .t 19⟩, ⟨2, .t 31⟩]), none⟩,
  so_ 33 (.call 23 [.t 32]),
  mv_ 2 33] [2])
 (.ret)
def AEV : AyD := .seq (.ops [mv_ 16 0,
  so_ 17 (.call 17 [.t 16]),
  mv_ 5 17] [3, 5])
 ABD
def AEZ : AyD := .seq (.seq (.ops [mv_ 8 0,
  so_ 9 (.call 22 [.t 8]),
  mv_ 4 9] [0, 3, 4])
 (.seq (.ops [mv_ 10 4,
  po_ 11 (.lenV (.t 10)),
  mv_ 12 3,
  po_ 13 (.lenV (.t 12)),
  po_ 14 (.bin 3 .lss (.t 11) (.t 13))] [0, 3, 4, 14])
 (.cond (.t 14)
 (.ops [mv_ 15 4,
   mv_ 3 15] [0, 3])
 (.skip))))
 AEV
def AFg : AyD := .seq (.ops [mv_ 6 0,
  so_ 7 (.call 21 [.t 6]),
  mv_ 3 7] [0, 3])
 AEZ
def AJj : AyD := .seq (.ops [po_ 2 (.mov (.c (.slice none 0 0)))] [0])
 AFg
def ADN : List VR := [.tmp 2]
theorem APt : Tryd.f12.body.bind (trC Tryd.prog Tryd.f12.ntmps) = some (er AJj) := by kernel_rfl
theorem APJ : trR Tryd.prog Tryd.f12.results.toList = some ADN := by kernel_rfl
def AKw := AyA ABD.eq_1
def AAp := AyA AEV.eq_1
def ADz := AyA AEZ.eq_1
def AKH := AyA AFg.eq_1
def AOf := AyA AJj.eq_1
theorem AN9 {K : TV → Prop} {e : Env} {H : List Ob} : res ADN e H K = res [.tmp 2] e H K := Ayz rfl
def ADG := (And.intro (And.intro (And.intro @AKw @AAp) (And.intro @ADz @AKH)) (And.intro @AOf @AN9))
def AOL := AGK 34 Tryd.func12 APt APJ rfl

def AHL : AyD := .seq (.draw 9 [mv_ 37 7,
  mv_ 38 5,
  mv_ 39 0,
  mv_ 40 8,
  po_ 41 (.idxA 1 (.t 39) (.t 40)),
  po_ 42 (.load false 1 (.t 41)),
  po_ 43 (.idxA 1 (.t 38) (.t 42)),
  po_ 44 (.load false 1 (.t 43)),
  mv_ 45 3,
  mv_ 46 0,
  mv_ 47 8,
  po_ 48 (.idxA 1 (.t 46) (.t 47)),
  po_ 49 (.load false 1 (.t 48)),
  po_ 50 (.idxA 1 (.t 45) (.t 49)),
  po_ 51 (.load false 1 (.t 50)),
  so_ 52 (.call 41 [.t 37, .t 44, .t 51])] [0, 3, 4, 5, 6, 7, 8, 28, 29, 30])
 (.seq (.ops [mv_ 53 8,
  po_ 54 (.bin 3 .add (.t 53) (ci_ 1)),
  mv_ 8 54] [0, 3, 4, 5, 6, 7, 8, 28, 29, 30])
 (.exit 1))
def AH7 : AyD := .cond (.t 36)
 AHL
 (.skip)
def AHZ : AyD := .seq (.ops [mv_ 96 7,
  po_ 97 (.fieldA 1 1 (.t 10)),
  po_ 98 (.load false 1 (.t 97)),
  po_ 99 (.fieldA 0 0 (.t 12)),
  po_ 100 (.load false 1 (.t 99)),
  po_ 101 (.bin 3 .sub (.t 98) (.t 100)),
  po_ 102 (.fieldA 1 1 (.t 12)),
  po_ 103 (.load false 1 (.t 102)),
  so_ 104 (.call 41 [.t 96, .t 101, .t 103])] [0, 3, 4, 5, 6, 7, 8, 10, 28, 29, 30])
 (.ops [mv_ 105 8,
  po_ 106 (.fieldA 0 0 (.t 10)),
  po_ 107 (.load false 1 (.t 106)),
  po_ 108 (.bin 3 .add (.t 105) (.t 107)),
  mv_ 8 108] [0, 3, 4, 5, 6, 7, 8, 28, 29, 30])
def AIa : AyD := .seq (.draw 5 [mv_ 86 7,
  mv_ 87 6,
  mv_ 88 11,
  po_ 89 (.idxA 1 (.t 87) (.t 88)),
  po_ 90 (.load false 1 (.t 89)),
  mv_ 91 4,
  mv_ 92 11,
  po_ 93 (.idxA 1 (.t 91) (.t 92)),
  po_ 94 (.load false 1 (.t 93)),
  so_ 95 (.call 41 [.t 86, .t 90, .t 94])] [0, 3, 4, 5, 6, 7, 8, 10, 12, 28, 29, 30])
 AHZ
def AHK : AyD := .seq (.ops [po_ 81 (.fieldA 1 1 (.t 10)),
  po_ 82 (.load false 1 (.t 81)),
  so_ 83 (.call 43 [.t 82, .c (.int .i64 ((0 : Nat) : Int)), .c (.int .i64 ((29 : Nat) : Int)), .c (.func (.func 45) #[] #[])]),
  mv_ 80 83,
  po_ 84 (.ext 0 (.t 80)),
  po_ 85 (.ext 1 (.t 80)),
  mv_ 11 84,
  ⟨none, .s (.store 2 (.t 12) (.t 85)), none⟩] [0, 3, 4, 5, 6, 7, 8, 10, 11, 12, 28, 29, 30])
 AIa
def AH3 : AyD := .seq (.ops [mv_ 71 7,
  po_ 72 (.fieldA 0 0 (.t 10)),
  po_ 73 (.load false 1 (.t 72)),
  po_ 74 (.fieldA 0 0 (.t 12)),
  po_ 75 (.load false 1 (.t 74)),
  po_ 76 (.bin 3 .sub (.t 73) (.t 75)),
  po_ 77 (.fieldA 1 1 (.t 12)),
  po_ 78 (.load false 1 (.t 77)),
  so_ 79 (.call 41 [.t 71, .t 76, .t 78])] [0, 3, 4, 5, 6, 7, 8, 10, 12, 28, 29, 30])
 AHK
def AHy : AyD := .seq (.draw 5 [mv_ 61 7,
  mv_ 62 5,
  mv_ 63 11,
  po_ 64 (.idxA 1 (.t 62) (.t 63)),
  po_ 65 (.load false 1 (.t 64)),
  mv_ 66 3,
  mv_ 67 11,
  po_ 68 (.idxA 1 (.t 66) (.t 67)),
  po_ 69 (.load false 1 (.t 68)),
  so_ 70 (.call 41 [.t 61, .t 65, .t 69])] [0, 3, 4, 5, 6, 7, 8, 10, 12, 28, 29, 30])
 AH3
def AH5 : AyD := .seq (.ops [po_ 56 (.fieldA 0 0 (.t 10)),
  po_ 57 (.load false 1 (.t 56)),
  so_ 58 (.call 43 [.t 57, .c (.int .i64 ((257 : Nat) : Int)), .c (.int .i64 ((285 : Nat) : Int)), .c (.func (.func 44) #[] #[])]),
  mv_ 55 58,
  po_ 59 (.ext 0 (.t 55)),
  po_ 60 (.ext 1 (.t 55)),
  so_ 12 (.alloc (.agg [.val (.int .i64 ((0 : Nat) : Int)), .val (.int .i64 ((0 : Nat) : Int))])),
  mv_ 11 59,
  ⟨none, .s (.store 2 (.t 12) (.t 60)), none⟩] [0, 3, 4, 5, 6, 7, 8, 10, 11, 12, 28, 29, 30])
 AHy
def AHI : AyD := .seq (.seq (.ops [po_ 34 (.fieldA 0 0 (.t 10)),
  po_ 35 (.load false 1 (.t 34)),
  po_ 36 (.bin 3 .eql (.t 35) (ci_ 0))] [0, 3, 4, 5, 6, 7, 8, 10, 28, 29, 30, 36])
 AH7)
 AH5
def AFH : AyD := .seq (.block 1 (.seq (.ops [po_ 32 (.idxA 2 (.t 28) (.t 30)),
  po_ 33 (.load true 2 (.t 32)),
  so_ 10 (.alloc (.agg [.val (.int .i64 ((0 : Nat) : Int)), .val (.int .i64 ((0 : Nat) : Int))])),
  ⟨none, .s (.store 2 (.t 10) (.t 33)), none⟩] [0, 3, 4, 5, 6, 7, 8, 10, 28, 29, 30])
 AHI))
 (.ops [po_ 109 (.bin 3 .add (.t 30) (ci_ 1)),
  mv_ 30 109] [0, 3, 4, 5, 6, 7, 8, 28, 29, 30])
def AGV : AyD := .seq (.cond (.t 31)
 (.skip)
 (.exit 0))
 AFH
def AGy : AyD := .seq (.ops [po_ 31 (.bin 3 .lss (.t 30) (.t 29))] [0, 3, 4, 5, 6, 7, 8, 28, 29, 30, 31])
 AGV
def AFJ : AyD := .block 0 (.loop [0, 3, 4, 5, 6, 7, 8, 28, 29, 30] AGy)
def AGq : AyD := .seq (.draw 4 [mv_ 110 7,
  mv_ 111 5,
  po_ 112 (.idxA 1 (.t 111) (ci_ 256)),
  po_ 113 (.load false 1 (.t 112)),
  mv_ 114 3,
  po_ 115 (.idxA 1 (.t 114) (ci_ 256)),
  po_ 116 (.load false 1 (.t 115)),
  so_ 117 (.call 41 [.t 110, .t 113, .t 116])] [7])
 (.seq (.ops [mv_ 118 7,
  so_ 119 (.call 46 [.t 118])] [7])
 (.seq (.ops [mv_ 120 7,
  po_ 121 (.nilc (.t 120)),
  po_ 122 (.fieldA 0 0 (.t 121)),
  po_ 123 (.load false 1 (.t 122)),
  mv_ 2 123] [2])
 (.ret)))
def AFU : AyD := .seq (.seq (.ops [mv_ 27 0,
  so_ 28 (.call 42 [.t 27]),
  po_ 29 (.lenV (.t 28)),
  po_ 30 (.mov (ci_ 0))] [0, 3, 4, 5, 6, 7, 8, 28, 29, 30])
 AFJ)
 AGq
def AFK : AyD := .seq (.ops [po_ 8 (.mov (ci_ 0))] [0, 3, 4, 5, 6, 7, 8])
 AFU
def AF4 : AyD := .seq (.ops [mv_ 25 7,
  so_ 26 (.call 41 [.t 25, .c (.int .i64 ((1 : Nat) : Int)), .c (.int .i64 ((2 : Nat) : Int))])] [0, 3, 4, 5, 6, 7])
 AFK
def AFT : AyD := .seq (.ops [mv_ 23 7,
  so_ 24 (.call 41 [.t 23, .c (.int .i64 ((1 : Nat) : Int)), .c (.int .i64 ((1 : Nat) : Int))])] [0, 3, 4, 5, 6, 7])
 AF4
def AF3 : AyD := .seq (.ops [po_ 21 (.build [.val (.slice none 0 0), .val (.int .u32 ((0 : Nat) : Int)), .val (.int .i64 ((0 : Nat) : Int))] [1, 1, 1] []),
  so_ 22 (.box (.t 21)),
  mv_ 7 22] [0, 3, 4, 5, 6, 7])
 AFT
def AGt : AyD := .seq (.ops [mv_ 17 3,
  so_ 18 (.call 40 [.t 17]),
  mv_ 19 4,
  so_ 20 (.call 40 [.t 19]),
  mv_ 5 18,
  mv_ 6 20] [0, 3, 4, 5, 6])
 AF3
def AFL : AyD := .seq (.ops [so_ 14 (.call 26 []),
  mv_ 13 14,
  po_ 15 (.ext 0 (.t 13)),
  po_ 16 (.ext 1 (.t 13)),
  mv_ 3 15,
  mv_ 4 16] [0, 3, 4])
 AGt
def ALI : AyD := .seq (.ops [po_ 2 (.mov (.c (.slice none 0 0)))] [0])
 AFL
def AMn : List VR := [.tmp 2]
theorem AQ2 : Tryd.f21.body.bind (trC Tryd.prog Tryd.f21.ntmps) = some (er ALI) := by kernel_rfl
theorem AQI : trR Tryd.prog Tryd.f21.results.toList = some AMn := by kernel_rfl
def ANm := AyA AHL.eq_1
def AMM := AyA AH7.eq_1
def AMZ := AyA AHZ.eq_1
def AM5 := AyA AIa.eq_1
def AMW := AyA AHK.eq_1
def AM0 := AyA AH3.eq_1
def ANk := AyA AHy.eq_1
def AMQ := AyA AH5.eq_1
def AM9 := AyA AHI.eq_1
def ALV := AyA AFH.eq_1
def ALy := AyA AGV.eq_1
def ALO := AyA AGy.eq_1
def AMj := AyA AFJ.eq_1
def AMv := AyA AGq.eq_1
def AK1 := AyA AFU.eq_1
def ALe := AyA AFK.eq_1
def ALN := AyA AF4.eq_1
def ALd := AyA AFT.eq_1
def AMd := AyA AF3.eq_1
def ALJ := AyA AGt.eq_1
def AMl := AyA AFL.eq_1
def APf := AyA ALI.eq_1
theorem APB {K : TV → Prop} {e : Env} {H : List Ob} : res AMn e H K = res [.tmp 2] e H K := Ayz rfl
def Ay4 := (And.intro (And.intro (And.intro (And.intro (And.intro @ANm @AMM) (And.intro @AMZ @AM5)) (And.intro (And.intro @AMW @AM0) (And.intro @ANk @AMQ))) (And.intro (And.intro (And.intro @AM9 @ALV) (And.intro @ALy @ALO)) (And.intro (And.intro @AMj @AMv) (And.intro @AK1 @ALe)))) (And.intro (And.intro (And.intro @ALN @ALd) (And.intro @AMd @ALJ)) (And.intro (And.intro @AMl @APf) @APB)))
def AQd := AGK 124 Tryd.func21 AQ2 AQI rfl

def AGI : AyD := .seq (.ops [mv_ 20 3,
  mv_ 21 6,
  mv_ 22 5,
  po_ 23 (.conv .u8 (.t 22)),
  mv_ 24 5,
  po_ 25 (.bin 3 .shr (.t 24) (.c (.int .u64 ((8 : Nat) : Int)))),
  po_ 26 (.conv .u8 (.t 25)),
  mv_ 27 5,
  po_ 28 (.un .xor (.t 27)),
  po_ 29 (.conv .u8 (.t 28)),
  mv_ 30 5,
  po_ 31 (.un .xor (.t 30)),
  po_ 32 (.bin 3 .shr (.t 31) (.c (.int .u64 ((8 : Nat) : Int)))),
  po_ 33 (.conv .u8 (.t 32)),
  ⟨some 34, .s (.bslice 1 5 (.val (.int .u8 ((0 : Nat) : Int))) [⟨0, .t 21⟩, ⟨1, .t 23⟩, ⟨2, .t 26⟩, ⟨3, .t 29⟩, ⟨4, .t 33⟩]), none⟩,
  so_ 35 (.app 1 1 5 (.t 20) (.t 34)),
  mv_ 3 35] [0, 3, 5])
 (.seq (.ops [mv_ 36 3,
  mv_ 37 0,
  mv_ 38 5,
  po_ 39 (.slV 1 (.t 37) none (some (.t 38))),
  so_ 40 (.app 1 1 5 (.t 36) (.t 39)),
  mv_ 3 40] [0, 3, 5])
 (.ops [mv_ 41 0,
  mv_ 42 5,
  po_ 43 (.slV 1 (.t 41) (some (.t 42)) none),
  mv_ 0 43] [0, 3]))
def AFZ : AyD := .seq (.seq (.ops [mv_ 16 5,
  mv_ 17 0,
  po_ 18 (.lenV (.t 17)),
  po_ 19 (.bin 3 .eql (.t 16) (.t 18))] [0, 3, 5, 6, 19])
 (.cond (.t 19)
 (.ops [po_ 6 (.mov (.c (.int .u8 ((1 : Nat) : Int))))] [0, 3, 5, 6])
 (.skip)))
 AGI
def AAe : AyD := .seq (.ops [po_ 6 (.mov (.c (.int .u8 ((0 : Nat) : Int))))] [0, 3, 5, 6])
 AFZ
def ACn : AyD := .seq (.block 1 (.seq (.ops [mv_ 13 0,
  po_ 14 (.lenV (.t 13)),
  po_ 15 (.min (.t 14) (ci_ 65535)),
  mv_ 5 15] [0, 3, 5])
 AAe))
 (.ops [po_ 4 (.mov (.c (.bool false)))] [0, 3, 4])
def AGW : AyD := .seq (.seq (.ops [mv_ 7 4,
  mv_ 8 7,
  ⟨some 9, .p (.mov (.t 0)), some ⟨8, false⟩⟩,
  ⟨some 10, .p (.lenV (.t 9)), some ⟨8, false⟩⟩,
  ⟨some 11, .p (.bin 3 .gtr (.t 10) (ci_ 0)), some ⟨8, false⟩⟩,
  po_ 12 (.pick (.t 8) (.c (.bool true)) (.t 11))] [0, 3, 12])
 (.cond (.t 12)
 (.skip)
 (.exit 0)))
 ACn
def AF9 : AyD := .block 0 (.own 3 1 (.loop [0, 3, 4] AGW))
def AAf : AyD := .seq (.ops [mv_ 44 3,
  mv_ 2 44] [2])
 (.ret)
def AGB : AyD := .seq (.seq (.ops [po_ 4 (.mov (.c (.bool true)))] [0, 3, 4])
 AF9)
 AAf
def AF7 : AyD := .seq (.ops [po_ 3 (.mov (.c (.slice none 0 0)))] [0, 3])
 AGB
def AKa : AyD := .seq (.ops [po_ 2 (.mov (.c (.slice none 0 0)))] [0])
 AF7
def ACi : List VR := [.tmp 2]
theorem AP8 : Tryd.f22.body.bind (trC Tryd.prog Tryd.f22.ntmps) = some (er AKa) := by kernel_rfl
theorem AQe : trR Tryd.prog Tryd.f22.results.toList = some ACi := by kernel_rfl
def ALC := AyA AGI.eq_1
def ALb := AyA AFZ.eq_1
def ALw := AyA AAe.eq_1
def AA2 := AyA ACn.eq_1
def AA8 := AyA AGW.eq_1
def AMo := AyA AF9.eq_1
def AK7 := AyA AAf.eq_1
def AK6 := AyA AGB.eq_1
def ALQ := AyA AF7.eq_1
def AOK := AyA AKa.eq_1
theorem AOn {K : TV → Prop} {e : Env} {H : List Ob} : res ACi e H K = res [.tmp 2] e H K := Ayz rfl
def ACk := (And.intro (And.intro (And.intro (And.intro @ALC @ALb) (And.intro @ALw @AA2)) (And.intro (And.intro @AA8 @AMo) (And.intro @AK7 @AK6))) (And.intro (And.intro @ALQ @AOK) @AOn))
def APH := AGK 45 Tryd.func22 AP8 AQe rfl

def AAD : AyD := .seq (.block 1 (.seq (.ops [po_ 13 (.idxA 1 (.t 9) (.t 11)),
  po_ 14 (.load false 1 (.t 13)),
  mv_ 5 14] [0, 3, 5, 9, 10, 11])
 (.seq (.ops [mv_ 15 3,
  mv_ 16 5,
  po_ 17 (.lenV (.t 16)),
  po_ 18 (.bin 3 .add (.t 15) (.t 17)),
  mv_ 3 18] [0, 3, 9, 10, 11])
 (.seq (.ops [mv_ 19 3,
  po_ 20 (.bin 3 .lss (.t 19) (ci_ 0))] [0, 3, 9, 10, 11, 20])
 (.cond (.t 20)
 (.pops [po_ 21 (.iface 9 (.c (.string (str [108, 101, 110, 32, 111, 117, 116, 32, 111, 102, 32, 114, 97, 110, 103, 101])))),
   ⟨none, .s (.pan (.t 21)), none⟩] [0, 3, 9, 10, 11])
 (.skip))))))
 (.ops [po_ 22 (.bin 3 .add (.t 11) (ci_ 1)),
  mv_ 11 22] [0, 3, 9, 10, 11])
def AAM : AyD := .seq (.cond (.t 12)
 (.skip)
 (.exit 0))
 AAD
def AAQ : AyD := .seq (.ops [po_ 12 (.bin 3 .lss (.t 11) (.t 10))] [0, 3, 9, 10, 11, 12])
 AAM
def AAI : AyD := .block 0 (.loop [0, 3, 9, 10, 11] AAQ)
def AzF : AyD := .seq (.ops [po_ 28 (.bin 3 .lss (.t 27) (.t 26))] [6, 25, 26, 27, 28])
 (.seq (.cond (.t 28)
 (.skip)
 (.exit 2))
 (.seq (.block 3 (.seq (.ops [po_ 29 (.idxA 1 (.t 25) (.t 27)),
  po_ 30 (.load false 1 (.t 29)),
  mv_ 8 30] [6, 8, 25, 26, 27])
 (.ops [mv_ 31 6,
  mv_ 32 8,
  so_ 33 (.app 1 1 5 (.t 31) (.t 32)),
  mv_ 6 33] [6, 25, 26, 27])))
 (.ops [po_ 34 (.bin 3 .add (.t 27) (ci_ 1)),
  mv_ 27 34] [6, 25, 26, 27])))
def AzD : AyD := .seq (.ops [mv_ 35 6,
  mv_ 2 35] [2])
 (.ret)
def AAJ : AyD := .seq (.seq (.ops [mv_ 25 0,
  po_ 26 (.lenV (.t 25)),
  po_ 27 (.mov (ci_ 0))] [6, 25, 26, 27])
 (.block 2 (.own 6 1 (.loop [6, 25, 26, 27] AzF))))
 AzD
def AAE : AyD := .seq (.ops [mv_ 23 3,
  so_ 24 (.call 47 [.c (.slice none 0 0), .t 23]),
  mv_ 6 24] [0, 6])
 AAJ
def AAF : AyD := .seq (.seq (.ops [mv_ 9 0,
  po_ 10 (.lenV (.t 9)),
  po_ 11 (.mov (ci_ 0))] [0, 3, 9, 10, 11])
 AAI)
 AAE
def AAl : AyD := .seq (.ops [po_ 3 (.mov (ci_ 0))] [0, 3])
 AAF
def AB7 : AyD := .seq (.ops [po_ 2 (.mov (.c (.slice none 0 0)))] [0])
 AAl
def AzW : List VR := [.tmp 2]
theorem AIq : Tryd.f23.body.bind (trC Tryd.prog Tryd.f23.ntmps) = some (er AB7) := by kernel_rfl
theorem AIs : trR Tryd.prog Tryd.f23.results.toList = some AzW := by kernel_rfl
def AEk := AyA AAD.eq_1
def AEn := AyA AAM.eq_1
def AEd := AyA AAQ.eq_1
def AEl := AyA AAI.eq_1
def AEu := AyA AzF.eq_1
def AEC := AyA AzD.eq_1
def AEm := AyA AAJ.eq_1
def AEr := AyA AAE.eq_1
def ADT := AyA AAF.eq_1
def ADJ := AyA AAl.eq_1
def AGk := AyA AB7.eq_1
theorem AFW {K : TV → Prop} {e : Env} {H : List Ob} : res AzW e H K = res [.tmp 2] e H K := Ayz rfl
def Ay2 := (And.intro (And.intro (And.intro (And.intro @AEk @AEn) (And.intro @AEd @AEl)) (And.intro (And.intro @AEu @AEC) (And.intro @AEm @AEr))) (And.intro (And.intro @ADT @ADJ) (And.intro @AGk @AFW)))
def AHb := AGK 36 Tryd.func23 AIq AIs rfl

def ABy : AyD := .ops [mv_ 17 0,
  mv_ 18 0,
  po_ 19 (.gen .capV [.t 18]),
  po_ 20 (.slV 1 (.t 17) none (some (.t 19))),
  mv_ 21 1,
  so_ 22 (.appZ 1 1 (.val (.int .u8 ((0 : Nat) : Int))) (.t 20) (.t 21)),
  mv_ 23 0,
  po_ 24 (.lenV (.t 23)),
  po_ 25 (.slV 1 (.t 22) none (some (.t 24))),
  mv_ 0 25] [0]
def ABq : AyD := .seq (.seq (.ops [mv_ 8 1,
  mv_ 9 0,
  po_ 10 (.gen .capV [.t 9]),
  mv_ 11 0,
  po_ 12 (.lenV (.t 11)),
  po_ 13 (.bin 3 .sub (.t 10) (.t 12)),
  po_ 14 (.bin 3 .sub (.t 8) (.t 13)),
  mv_ 1 14] [0, 1])
 (.seq (.ops [mv_ 15 1,
  po_ 16 (.bin 3 .gtr (.t 15) (ci_ 0))] [0, 1, 16])
 (.cond (.t 16)
 ABy
 (.skip))))
 (.seq (.ops [mv_ 26 0,
  mv_ 4 26] [4])
 (.ret))
def ABu : AyD := .seq (.seq (.ops [mv_ 5 1,
  po_ 6 (.bin 3 .lss (.t 5) (ci_ 0))] [0, 1, 6])
 (.cond (.t 6)
 (.pops [po_ 7 (.iface 9 (.c (.string (str [99, 97, 110, 110, 111, 116, 32, 98, 101, 32, 110, 101, 103, 97, 116, 105, 118, 101])))),
   ⟨none, .s (.pan (.t 7)), none⟩] [0, 1])
 (.skip)))
 ABq
def ACZ : AyD := .seq (.ops [po_ 4 (.mov (.c (.slice none 0 0)))] [0, 1])
 ABu
def AC6 : List VR := [.tmp 4]
theorem AJ5 : Tryd.f47.body.bind (trC Tryd.prog Tryd.f47.ntmps) = some (er ACZ) := by kernel_rfl
theorem AJM : trR Tryd.prog Tryd.f47.results.toList = some AC6 := by kernel_rfl
def AFA := AyA ABy.eq_1
def AFB := AyA ABq.eq_1
def AFv := AyA ABu.eq_1
def AIB := AyA ACZ.eq_1
theorem AIk {K : TV → Prop} {e : Env} {H : List Ob} : res AC6 e H K = res [.tmp 4] e H K := Ayz rfl
def AC8 := (And.intro (And.intro (And.intro @AFA @AFB) (And.intro @AFv @AIB)) @AIk)
def AJb := AGK 27 Tryd.func47 AJ5 AJM rfl

def AHz : AyD := .draw 8 [mv_ 32 3,
  mv_ 33 6,
  po_ 34 (.idxA 1 (.t 32) (.t 33)),
  po_ 35 (.load false 1 (.t 34)),
  mv_ 36 4,
  mv_ 37 8,
  po_ 38 (.bin 3 .shr (.t 36) (.t 37)),
  po_ 39 (.bin 3 .and (.t 38) (ci_ 1)),
  mv_ 40 5,
  po_ 41 (.bin 3 .sub (.t 40) (ci_ 1)),
  mv_ 42 8,
  po_ 43 (.bin 3 .sub (.t 41) (.t 42)),
  po_ 44 (.bin 3 .shl (.t 39) (.t 43)),
  po_ 45 (.bin 3 .or (.t 35) (.t 44)),
  po_ 46 (.idxA 1 (.t 32) (.t 33)),
  ⟨none, .s (.store 1 (.t 46) (.t 45)), none⟩] [0, 3, 4, 5, 6, 18, 19, 20, 28, 29]
def AHu : AyD := .seq (.block 5 (.seq (.ops [mv_ 31 29,
  mv_ 8 31] [0, 3, 4, 5, 6, 8, 18, 19, 20, 28, 29])
 AHz))
 (.ops [po_ 47 (.bin 3 .add (.t 29) (ci_ 1)),
  mv_ 29 47] [0, 3, 4, 5, 6, 18, 19, 20, 28, 29])
def AHQ : AyD := .seq (.cond (.t 30)
 (.skip)
 (.exit 4))
 AHu
def AH9 : AyD := .seq (.ops [po_ 30 (.bin 3 .lss (.t 29) (.t 28))] [0, 3, 4, 5, 6, 18, 19, 20, 28, 29, 30])
 AHQ
def AHB : AyD := .block 4 (.loop [0, 3, 4, 5, 6, 18, 19, 20, 28, 29] AH9)
def AHC : AyD := .ops [mv_ 48 4,
  po_ 49 (.bin 3 .add (.t 48) (ci_ 1)),
  mv_ 4 49] [0, 3, 4, 5, 18, 19, 20]
def AIe : AyD := .seq (.seq (.ops [mv_ 28 5,
  po_ 29 (.mov (ci_ 0))] [0, 3, 4, 5, 6, 18, 19, 20, 28, 29])
 AHB)
 AHC
def AH2 : AyD := .cond (.t 27)
 AIe
 (.skip)
def AH8 : AyD := .seq (.ops [mv_ 25 7,
  mv_ 26 5,
  po_ 27 (.bin 3 .eql (.t 25) (.t 26))] [0, 3, 4, 5, 6, 18, 19, 20, 27])
 AH2
def AGX : AyD := .ops [po_ 50 (.bin 3 .add (.t 20) (ci_ 1)),
  mv_ 20 50] [0, 3, 4, 5, 18, 19, 20]
def AGz : AyD := .seq (.block 3 (.seq (.ops [mv_ 22 20,
  po_ 23 (.idxA 1 (.t 18) (.t 20)),
  po_ 24 (.load false 1 (.t 23)),
  mv_ 6 22,
  mv_ 7 24] [0, 3, 4, 5, 6, 7, 18, 19, 20])
 AH8))
 AGX
def AG1 : AyD := .seq (.cond (.t 21)
 (.skip)
 (.exit 2))
 AGz
def AGP : AyD := .seq (.ops [po_ 21 (.bin 3 .lss (.t 20) (.t 19))] [0, 3, 4, 5, 18, 19, 20, 21])
 AG1
def AG2 : AyD := .block 2 (.loop [0, 3, 4, 5, 18, 19, 20] AGP)
def AGu : AyD := .seq (.ops [mv_ 18 0,
  po_ 19 (.lenV (.t 18)),
  po_ 20 (.mov (ci_ 0))] [0, 3, 4, 5, 18, 19, 20])
 AG2
def AGG : AyD := .ops [mv_ 14 5,
  po_ 15 (.bin 3 .add (.t 14) (ci_ 1)),
  mv_ 5 15] [0, 3, 4, 5]
def AFM : AyD := .seq (.block 1 (.seq (.ops [mv_ 16 4,
  po_ 17 (.bin 3 .shl (.t 16) (.c (.int .u64 ((1 : Nat) : Int)))),
  mv_ 4 17] [0, 3, 4, 5])
 AGu))
 AGG
def AGO : AyD := .seq (.seq (.ops [mv_ 12 5,
  po_ 13 (.bin 3 .lss (.t 12) (ci_ 16))] [0, 3, 4, 5, 13])
 (.cond (.t 13)
 (.skip)
 (.exit 0)))
 AFM
def AGF : AyD := .block 0 (.loop [0, 3, 4, 5] AGO)
def AFG : AyD := .seq (.ops [mv_ 51 3,
  mv_ 2 51] [2])
 (.ret)
def AGA : AyD := .seq (.seq (.ops [po_ 5 (.mov (ci_ 1))] [0, 3, 4, 5])
 AGF)
 AFG
def AG6 : AyD := .seq (.ops [po_ 4 (.mov (ci_ 0))] [0, 3, 4])
 AGA
def AG4 : AyD := .seq (.ops [mv_ 9 0,
  po_ 10 (.lenV (.t 9)),
  so_ 11 (.mks 1 8 (.val (.int .i64 ((0 : Nat) : Int))) (.t 10) (.t 10)),
  mv_ 3 11] [0, 3])
 AG6
def AL8 : AyD := .seq (.ops [po_ 2 (.mov (.c (.slice none 0 0)))] [0])
 AG4
def ALm : List VR := [.tmp 2]
theorem AQU : Tryd.f40.body.bind (trC Tryd.prog Tryd.f40.ntmps) = some (er AL8) := by kernel_rfl
theorem ARy : trR Tryd.prog Tryd.f40.results.toList = some ALm := by kernel_rfl
def ANp := AyA AHz.eq_1
def AM1 := AyA AHu.eq_1
def AMX := AyA AHQ.eq_1
def AM4 := AyA AH9.eq_1
def ANf := AyA AHB.eq_1
def ANb := AyA AHC.eq_1
def AMY := AyA AIe.eq_1
def AMV := AyA AH2.eq_1
def AMU := AyA AH8.eq_1
def ALr := AyA AGX.eq_1
def AMw := AyA AGz.eq_1
def AKX := AyA AG1.eq_1
def AMg := AyA AGP.eq_1
def ALK := AyA AG2.eq_1
def AMa := AyA AGu.eq_1
def ALf := AyA AGG.eq_1
def ALp := AyA AFM.eq_1
def ALa := AyA AGO.eq_1
def ALu := AyA AGF.eq_1
def AK9 := AyA AFG.eq_1
def AMp := AyA AGA.eq_1
def ALx := AyA AG6.eq_1
def ALt := AyA AG4.eq_1
def AO7 := AyA AL8.eq_1
theorem API {K : TV → Prop} {e : Env} {H : List Ob} : res ALm e H K = res [.tmp 2] e H K := Ayz rfl
def Azy := (And.intro (And.intro (And.intro (And.intro (And.intro @ANp @AM1) (And.intro @AMX @AM4)) (And.intro (And.intro @ANf @ANb) (And.intro @AMY @AMV))) (And.intro (And.intro (And.intro @AMU @ALr) (And.intro @AMw @AKX)) (And.intro (And.intro @AMg @ALK) (And.intro @AMa @ALf)))) (And.intro (And.intro (And.intro (And.intro @ALp @ALa) (And.intro @ALu @AK9)) (And.intro (And.intro @AMp @ALx) (And.intro @ALt @AO7))) @API))
def AQk := AGK 52 Tryd.func40 AQU ARy rfl

def ACE : AyD := .seq (.ops [mv_ 47 0,
  po_ 48 (.nilc (.t 47)),
  po_ 49 (.fieldA 1 1 (.t 48)),
  po_ 50 (.load false 1 (.t 49)),
  po_ 51 (.bin 36 .shr (.t 50) (.c (.int .u64 ((8 : Nat) : Int)))),
  po_ 52 (.nilc (.t 47)),
  po_ 53 (.fieldA 1 1 (.t 52)),
  ⟨none, .s (.store 1 (.t 53) (.t 51)), none⟩] [0])
 (.ops [mv_ 54 0,
  po_ 55 (.nilc (.t 54)),
  po_ 56 (.fieldA 2 2 (.t 55)),
  po_ 57 (.load false 1 (.t 56)),
  po_ 58 (.bin 3 .sub (.t 57) (ci_ 8)),
  po_ 59 (.nilc (.t 54)),
  po_ 60 (.fieldA 2 2 (.t 59)),
  ⟨none, .s (.store 1 (.t 60) (.t 58)), none⟩] [0])
def ACU : AyD := .block 1 (.seq (.draw 5 [mv_ 33 0,
  mv_ 34 0,
  po_ 35 (.nilc (.t 34)),
  po_ 36 (.fieldA 0 0 (.t 35)),
  po_ 37 (.load false 1 (.t 36)),
  mv_ 38 0,
  po_ 39 (.nilc (.t 38)),
  po_ 40 (.fieldA 1 1 (.t 39)),
  po_ 41 (.load false 1 (.t 40)),
  po_ 42 (.conv .u8 (.t 41)),
  ⟨some 43, .s (.bslice 1 1 (.val (.int .u8 ((0 : Nat) : Int))) [⟨0, .t 42⟩]), none⟩,
  so_ 44 (.app 1 1 5 (.t 37) (.t 43)),
  po_ 45 (.nilc (.t 33)),
  po_ 46 (.fieldA 0 0 (.t 45)),
  ⟨none, .s (.store 1 (.t 46) (.t 44)), none⟩] [0])
 ACE)
def Az9 : AyD := .seq (.seq (.ops [mv_ 28 0,
  po_ 29 (.nilc (.t 28)),
  po_ 30 (.fieldA 2 2 (.t 29)),
  po_ 31 (.load false 1 (.t 30)),
  po_ 32 (.bin 3 .geq (.t 31) (ci_ 8))] [0, 32])
 (.cond (.t 32)
 (.skip)
 (.exit 0)))
 ACU
def ACI : AyD := .block 0 (.ownB 0 [(0, 0)] 1 (.loop [0] Az9))
def ACG : AyD := .seq (.ops [mv_ 20 0,
  po_ 21 (.nilc (.t 20)),
  po_ 22 (.fieldA 2 2 (.t 21)),
  po_ 23 (.load false 1 (.t 22)),
  mv_ 24 2,
  po_ 25 (.bin 3 .add (.t 23) (.t 24)),
  po_ 26 (.nilc (.t 20)),
  po_ 27 (.fieldA 2 2 (.t 26)),
  ⟨none, .s (.store 1 (.t 27) (.t 25)), none⟩] [0])
 ACI
def ADR : AyD := .seq (.draw 6 [mv_ 6 0,
  po_ 7 (.nilc (.t 6)),
  po_ 8 (.fieldA 1 1 (.t 7)),
  po_ 9 (.load false 1 (.t 8)),
  mv_ 10 1,
  po_ 11 (.conv .u32 (.t 10)),
  mv_ 12 0,
  po_ 13 (.nilc (.t 12)),
  po_ 14 (.fieldA 2 2 (.t 13)),
  po_ 15 (.load false 1 (.t 14)),
  po_ 16 (.bin 36 .shl (.t 11) (.t 15)),
  po_ 17 (.bin 36 .or (.t 9) (.t 16)),
  po_ 18 (.nilc (.t 6)),
  po_ 19 (.fieldA 1 1 (.t 18)),
  ⟨none, .s (.store 1 (.t 19) (.t 17)), none⟩] [0, 2])
 ACG
def ADZ : List VR := []
theorem AMe : Tryd.f41.body.bind (trC Tryd.prog Tryd.f41.ntmps) = some (er ADR) := by kernel_rfl
theorem AK5 : trR Tryd.prog Tryd.f41.results.toList = some ADZ := by kernel_rfl
def AHg := AyA ACE.eq_1
def AHe := AyA ACU.eq_1
def AG8 := AyA Az9.eq_1
def AHh := AyA ACI.eq_1
def AHr := AyA ACG.eq_1
def AJH := AyA ADR.eq_1
theorem AJw {K : TV → Prop} {e : Env} {H : List Ob} : res ADZ e H K = res [] e H K := Ayz rfl
def Aze := (And.intro (And.intro (And.intro @AHg @AHe) (And.intro @AG8 @AHh)) (And.intro (And.intro @AHr @AJH) @AJw))
def AKR := AGK 61 Tryd.func41 AMe AK5 rfl

def ACo : AyD := .seq (.seq (.draw 20 [mv_ 49 11,
  po_ 50 (.bin 3 .lss (.t 49) (ci_ 258)),
  mv_ 51 50,
  ⟨some 52, .p (.mov (.t 7)), some ⟨51, true⟩⟩,
  ⟨some 53, .p (.mov (.t 11)), some ⟨51, true⟩⟩,
  ⟨some 54, .p (.bin 3 .add (.t 52) (.t 53)), some ⟨51, true⟩⟩,
  ⟨some 55, .p (.load false 1 (.t 1)), some ⟨51, true⟩⟩,
  ⟨some 56, .p (.lenV (.t 55)), some ⟨51, true⟩⟩,
  ⟨some 57, .p (.bin 3 .lss (.t 54) (.t 56)), some ⟨51, true⟩⟩,
  po_ 58 (.pick (.t 51) (.t 57) (.c (.bool false))),
  mv_ 59 58,
  ⟨some 60, .p (.load false 1 (.t 1)), some ⟨59, true⟩⟩,
  ⟨some 61, .p (.mov (.t 9)), some ⟨59, true⟩⟩,
  ⟨some 62, .p (.bin 3 .sub (.t 61) (ci_ 1)), some ⟨59, true⟩⟩,
  ⟨some 63, .p (.mov (.t 11)), some ⟨59, true⟩⟩,
  ⟨some 64, .p (.bin 3 .add (.t 62) (.t 63)), some ⟨59, true⟩⟩,
  ⟨some 65, .p (.idxA 1 (.t 60) (.t 64)), some ⟨59, true⟩⟩,
  ⟨some 66, .p (.load false 1 (.t 65)), some ⟨59, true⟩⟩,
  ⟨some 67, .p (.load false 1 (.t 1)), some ⟨59, true⟩⟩,
  ⟨some 68, .p (.mov (.t 7)), some ⟨59, true⟩⟩,
  ⟨some 69, .p (.mov (.t 11)), some ⟨59, true⟩⟩,
  ⟨some 70, .p (.bin 3 .add (.t 68) (.t 69)), some ⟨59, true⟩⟩,
  ⟨some 71, .p (.idxA 1 (.t 67) (.t 70)), some ⟨59, true⟩⟩,
  ⟨some 72, .p (.load false 1 (.t 71)), some ⟨59, true⟩⟩,
  ⟨some 73, .p (.bin 5 .eql (.t 66) (.t 72)), some ⟨59, true⟩⟩,
  po_ 74 (.pick (.t 59) (.t 73) (.c (.bool false)))] [1, 3, 4, 5, 6, 7, 8, 9, 10, 11, 74])
 (.cond (.t 74)
 (.skip)
 (.exit 4)))
 (.block 5 (.ops [mv_ 75 11,
  po_ 76 (.bin 3 .add (.t 75) (ci_ 1)),
  mv_ 11 76] [1, 3, 4, 5, 6, 7, 8, 9, 10, 11]))
def AGp : AyD := .ops [mv_ 81 11,
  mv_ 82 7,
  mv_ 83 9,
  po_ 84 (.bin 3 .sub (.t 83) (ci_ 1)),
  po_ 85 (.bin 3 .sub (.t 82) (.t 84)),
  ⟨some 86, .p (.build [.val (.int .i64 ((0 : Nat) : Int)), .val (.int .i64 ((0 : Nat) : Int))] [1, 1] [⟨0, .t 81⟩, ⟨1, .t 85⟩]), none⟩,
  ⟨none, .s (.store 2 (.t 8) (.t 86)), none⟩] [1, 3, 4, 5, 6, 7, 8, 9, 10]
def AGi : AyD := .seq (.seq (.ops [mv_ 77 11,
  po_ 78 (.fieldA 0 0 (.t 8)),
  po_ 79 (.load false 1 (.t 78)),
  po_ 80 (.bin 3 .gtr (.t 77) (.t 79))] [1, 3, 4, 5, 6, 7, 8, 9, 10, 11, 80])
 (.cond (.t 80)
 AGp
 (.skip)))
 (.ops [po_ 87 (.load false 1 (.t 5)),
  mv_ 88 9,
  po_ 89 (.bin 3 .sub (.t 88) (ci_ 1)),
  po_ 90 (.idxA 1 (.t 87) (.t 89)),
  po_ 91 (.load false 1 (.t 90)),
  mv_ 9 91] [1, 3, 4, 5, 6, 7, 8, 9, 10])
def AFS : AyD := .seq (.block 4 (.loop [1, 3, 4, 5, 6, 7, 8, 9, 10, 11] ACo))
 AGi
def AFX : AyD := .ops [mv_ 47 10,
  po_ 48 (.bin 3 .add (.t 47) (ci_ 1)),
  mv_ 10 48] [1, 3, 4, 5, 6, 7, 8, 9, 10]
def AFQ : AyD := .seq (.block 3 (.seq (.ops [po_ 11 (.mov (ci_ 3))] [1, 3, 4, 5, 6, 7, 8, 9, 10, 11])
 AFS))
 AFX
def ACm : AyD := .seq (.seq (.ops [mv_ 34 10,
  po_ 35 (.bin 3 .lss (.t 34) (ci_ 150)),
  mv_ 36 35,
  ⟨some 37, .p (.mov (.t 9)), some ⟨36, true⟩⟩,
  ⟨some 38, .p (.bin 3 .gtr (.t 37) (ci_ 0)), some ⟨36, true⟩⟩,
  po_ 39 (.pick (.t 36) (.t 38) (.c (.bool false))),
  mv_ 40 39,
  ⟨some 41, .p (.mov (.t 7)), some ⟨40, true⟩⟩,
  ⟨some 42, .p (.mov (.t 9)), some ⟨40, true⟩⟩,
  ⟨some 43, .p (.bin 3 .sub (.t 42) (ci_ 1)), some ⟨40, true⟩⟩,
  ⟨some 44, .p (.bin 3 .sub (.t 41) (.t 43)), some ⟨40, true⟩⟩,
  ⟨some 45, .p (.bin 3 .leq (.t 44) (ci_ 32768)), some ⟨40, true⟩⟩,
  po_ 46 (.pick (.t 40) (.t 45) (.c (.bool false)))] [1, 3, 4, 5, 6, 7, 8, 9, 10, 46])
 (.cond (.t 46)
 (.skip)
 (.exit 2)))
 AFQ
def AGv : AyD := .block 2 (.loop [1, 3, 4, 5, 6, 7, 8, 9, 10] ACm)
def AF1 : AyD := .seq (.ops [po_ 10 (.mov (ci_ 0))] [1, 3, 4, 5, 6, 7, 8, 9, 10])
 AGv
def AFk : AyD := .seq (.draw 1 [po_ 27 (.load false 1 (.t 4)),
  po_ 28 (.load false 1 (.t 1)),
  mv_ 29 7,
  po_ 30 (.slV 1 (.t 28) (some (.t 29)) none),
  po_ 31 (.gen (.s2a 3 1) [.t 30]),
  po_ 32 (.load true 3 (.t 31)),
  po_ 33 (.gen (.look (.arr 3) (.val (.int .i64 ((0 : Nat) : Int))) false) [.t 27, .t 32]),
  mv_ 9 33] [1, 3, 4, 5, 6, 7, 8, 9])
 AF1
def AEW : AyD := .cond (.t 26)
 AFk
 (.skip)
def ABA : AyD := .seq (.ops [po_ 100 (.bin 3 .lss (.t 99) (.t 98))] [1, 3, 4, 5, 6, 7, 98, 99, 100])
 (.seq (.cond (.t 100)
 (.skip)
 (.exit 6))
 (.seq (.block 7 (.seq (.ops [mv_ 101 6,
  mv_ 102 7,
  so_ 103 (.callv (.t 101) [.t 102])] [1, 3, 4, 5, 6, 7, 98, 99])
 (.ops [mv_ 104 7,
  po_ 105 (.bin 3 .add (.t 104) (ci_ 1)),
  mv_ 7 105] [1, 3, 4, 5, 6, 7, 98, 99])))
 (.ops [po_ 106 (.bin 3 .add (.t 99) (ci_ 1)),
  mv_ 99 106] [1, 3, 4, 5, 6, 7, 98, 99])))
def AE9 : AyD := .seq (.ops [po_ 96 (.fieldA 0 0 (.t 8)),
  po_ 97 (.load false 1 (.t 96)),
  po_ 98 (.max (.t 97) (ci_ 1)),
  po_ 99 (.mov (ci_ 0))] [1, 3, 4, 5, 6, 7, 98, 99])
 (.block 6 (.loop [1, 3, 4, 5, 6, 7, 98, 99] ABA))
def AFe : AyD := .seq (.ops [mv_ 92 3,
  po_ 93 (.load true 2 (.t 8)),
  ⟨some 94, .s (.bslice 2 1 (.agg [.val (.int .i64 ((0 : Nat) : Int)), .val (.int .i64 ((0 : Nat) : Int))]) [⟨0, .t 93⟩]), none⟩,
  so_ 95 (.app 2 16 86 (.t 92) (.t 94)),
  mv_ 3 95] [1, 3, 4, 5, 6, 7, 8])
 AE9
def AE0 : AyD := .seq (.seq (.ops [mv_ 22 7,
  po_ 23 (.bin 3 .add (.t 22) (ci_ 3)),
  po_ 24 (.load false 1 (.t 1)),
  po_ 25 (.lenV (.t 24)),
  po_ 26 (.bin 3 .leq (.t 23) (.t 25))] [1, 3, 4, 5, 6, 7, 8, 26])
 AEW)
 AFe
def AFc : AyD := .block 1 (.seq (.ops [po_ 21 (.build [.val (.int .i64 ((0 : Nat) : Int)), .val (.int .i64 ((0 : Nat) : Int))] [1, 1] []),
  so_ 8 (.alloc (.agg [.val (.int .i64 ((0 : Nat) : Int)), .val (.int .i64 ((0 : Nat) : Int))])),
  ⟨none, .s (.store 2 (.t 8) (.t 21)), none⟩] [1, 3, 4, 5, 6, 7, 8])
 AE0)
def AE2 : AyD := .seq (.seq (.ops [mv_ 17 7,
  po_ 18 (.load false 1 (.t 1)),
  po_ 19 (.lenV (.t 18)),
  po_ 20 (.bin 3 .lss (.t 17) (.t 19))] [1, 3, 4, 5, 6, 7, 20])
 (.cond (.t 20)
 (.skip)
 (.exit 0)))
 AFc
def AFa : AyD := .block 0 (.own 3 2 (.loop [1, 3, 4, 5, 6, 7] AE2))
def AFf : AyD := .seq (.ops [mv_ 107 3,
  mv_ 2 107] [2])
 (.ret)
def AES : AyD := .seq (.seq (.ops [po_ 7 (.mov (ci_ 0))] [1, 3, 4, 5, 6, 7])
 AFa)
 AFf
def AEX : AyD := .seq (.ops [po_ 16 (.mkf (.func 57) [] [.t 1, .t 4, .t 5]),
  mv_ 6 16] [1, 3, 4, 5, 6])
 AES
def AFi : AyD := .seq (.ops [po_ 13 (.load false 1 (.t 1)),
  po_ 14 (.lenV (.t 13)),
  so_ 15 (.mks 1 8 (.val (.int .i64 ((0 : Nat) : Int))) (.t 14) (.t 14)),
  so_ 5 (.alloc (.val (.slice none 0 0))),
  ⟨none, .s (.store 1 (.t 5) (.t 15)), none⟩] [1, 3, 4, 5])
 AEX
def AE5 : AyD := .seq (.ops [so_ 12 (.mkm (.arr 3) none),
  so_ 4 (.alloc (.val (.map none))),
  ⟨none, .s (.store 1 (.t 4) (.t 12)), none⟩] [1, 3, 4])
 AFi
def AEU : AyD := .seq (.ops [po_ 3 (.mov (.c (.slice none 0 0)))] [1, 3])
 AE5
def AJ7 : AyD := .seq (.ops [so_ 1 (.box (.t 0)),
  po_ 2 (.mov (.c (.slice none 0 0)))] [1])
 AEU
def AKc : List VR := [.tmp 2]
theorem AQi : Tryd.f42.body.bind (trC Tryd.prog Tryd.f42.ntmps) = some (er AJ7) := by kernel_rfl
theorem AQj : trR Tryd.prog Tryd.f42.results.toList = some AKc := by kernel_rfl
def AMc := AyA ACo.eq_1
def AKY := AyA AGp.eq_1
def ALv := AyA AGi.eq_1
def AMb := AyA AFS.eq_1
def ALX := AyA AFX.eq_1
def AK4 := AyA AFQ.eq_1
def AMr := AyA ACm.eq_1
def AMi := AyA AGv.eq_1
def ALF := AyA AF1.eq_1
def AKN := AyA AFk.eq_1
def AKA := AyA AEW.eq_1
def AKj := AyA ABA.eq_1
def AKn := AyA AE9.eq_1
def AKP := AyA AFe.eq_1
def AKk := AyA AE0.eq_1
def AKr := AyA AFc.eq_1
def AKu := AyA AE2.eq_1
def AKC := AyA AFa.eq_1
def AKK := AyA AFf.eq_1
def AKv := AyA AES.eq_1
def AKx := AyA AEX.eq_1
def AKz := AyA AFi.eq_1
def AKm := AyA AE5.eq_1
def AKG := AyA AEU.eq_1
def AOV := AyA AJ7.eq_1
theorem AOl {K : TV → Prop} {e : Env} {H : List Ob} : res AKc e H K = res [.tmp 2] e H K := Ayz rfl
def AyQ := (And.intro (And.intro (And.intro (And.intro (And.intro @AMc @AKY) (And.intro @ALv @AMb)) (And.intro (And.intro @ALX @AK4) (And.intro @AMr @AMi))) (And.intro (And.intro (And.intro @ALF @AKN) (And.intro @AKA @AKj)) (And.intro (And.intro @AKn @AKP) (And.intro @AKk @AKr)))) (And.intro (And.intro (And.intro (And.intro @AKu @AKC) (And.intro @AKK @AKv)) (And.intro (And.intro @AKx @AKz) (And.intro @AKm @AKG))) (And.intro @AOV @AOl)))
def APK := AGK 108 Tryd.func42 AQi AQj rfl

def AEy : AyD := .seq (.ops [po_ 11 (.load false 1 (.t 1)),
  mv_ 12 0,
  po_ 13 (.slV 1 (.t 11) (some (.t 12)) none),
  po_ 14 (.gen (.s2a 3 1) [.t 13]),
  po_ 15 (.load true 3 (.t 14)),
  so_ 5 (.alloc (.arr 3 1 [.val (.int .u8 ((0 : Nat) : Int)), .val (.int .u8 ((0 : Nat) : Int)), .val (.int .u8 ((0 : Nat) : Int))])),
  ⟨none, .s (.store 3 (.t 5) (.t 15)), none⟩] [0, 2, 3, 5])
 (.seq (.draw 3 [po_ 16 (.load false 1 (.t 3)),
  mv_ 17 0,
  po_ 18 (.load false 1 (.t 2)),
  po_ 19 (.load true 3 (.t 5)),
  po_ 20 (.gen (.look (.arr 3) (.val (.int .i64 ((0 : Nat) : Int))) false) [.t 18, .t 19]),
  po_ 21 (.idxA 1 (.t 16) (.t 17)),
  ⟨none, .s (.store 1 (.t 21) (.t 20)), none⟩] [0, 2, 5])
 (.ops [po_ 22 (.load false 1 (.t 2)),
  po_ 23 (.load true 3 (.t 5)),
  mv_ 24 0,
  po_ 25 (.bin 3 .add (.t 24) (ci_ 1)),
  ⟨none, .s (.mupd (.arr 3) (.t 22) (.t 23) (.t 25)), none⟩] []))
def AEA : AyD := .cond (.t 10)
 AEy
 (.skip)
def AHW : AyD := .seq (.ops [mv_ 6 0,
  po_ 7 (.bin 3 .add (.t 6) (ci_ 3)),
  po_ 8 (.load false 1 (.t 1)),
  po_ 9 (.lenV (.t 8)),
  po_ 10 (.bin 3 .leq (.t 7) (.t 9))] [0, 1, 2, 3, 10])
 AEA
def AH0 : List VR := []
theorem AOz : Tryd.f57.body.bind (trC Tryd.prog Tryd.f57.ntmps) = some (er AHW) := by kernel_rfl
theorem AOr : trR Tryd.prog Tryd.f57.results.toList = some AH0 := by kernel_rfl
def AJr := AyA AEy.eq_1
def AJX := AyA AEA.eq_1
def ANh := AyA AHW.eq_1
theorem ANs {K : TV → Prop} {e : Env} {H : List Ob} : res AH0 e H K = res [] e H K := Ayz rfl
def AHx := (And.intro (And.intro @AJr @AJX) (And.intro @ANh @ANs))
def AN7 := AGK 26 Tryd.func57 AOz AOr rfl

def AD1 : AyD := .seq (.seq (.ops [mv_ 14 11,
  mv_ 15 2,
  po_ 16 (.bin 3 .leq (.t 14) (.t 15))] [0, 2, 3, 9, 10, 11, 16])
 (.cond (.t 16)
 (.skip)
 (.exit 0)))
 (.seq (.block 1 (.seq (.ops [mv_ 19 3,
  mv_ 20 11,
  so_ 21 (.callv (.t 19) [.t 20]),
  po_ 22 (.field false 1 0 0 (.t 21)),
  mv_ 23 0,
  po_ 24 (.bin 3 .leq (.t 22) (.t 23))] [0, 2, 3, 9, 10, 11, 24])
 (.cond (.t 24)
 (.ops [mv_ 25 11,
   mv_ 10 25] [0, 2, 3, 9, 10, 11])
 (.skip))))
 (.ops [mv_ 17 11,
  po_ 18 (.bin 3 .add (.t 17) (ci_ 1)),
  mv_ 11 18] [0, 2, 3, 9, 10, 11]))
def AEo : AyD := .block 0 (.loop [0, 2, 3, 9, 10, 11] AD1)
def AEz : AyD := .seq (.ops [mv_ 26 10,
  mv_ 27 3,
  mv_ 28 10,
  so_ 29 (.callv (.t 27) [.t 28]),
  mv_ 8 26,
  ⟨none, .s (.store 2 (.t 9) (.t 29)), none⟩] [8, 9])
 (.ret)
def AEp : AyD := .seq (.seq (.ops [mv_ 13 1,
  mv_ 11 13] [0, 2, 3, 9, 10, 11])
 AEo)
 AEz
def AEB : AyD := .seq (.ops [mv_ 12 1,
  mv_ 10 12] [0, 1, 2, 3, 9, 10])
 AEp
def AHD : AyD := .seq (.ops [po_ 8 (.mov (ci_ 0)),
  so_ 9 (.alloc (.agg [.val (.int .i64 ((0 : Nat) : Int)), .val (.int .i64 ((0 : Nat) : Int))]))] [0, 1, 2, 3, 9])
 AEB
def AHt : List VR := [.tmp 8, .cell 9 true 2]
theorem AOm : Tryd.f43.body.bind (trC Tryd.prog Tryd.f43.ntmps) = some (er AHD) := by kernel_rfl
theorem AOA : trR Tryd.prog Tryd.f43.results.toList = some AHt := by kernel_rfl
def AJG := AyA AD1.eq_1
def AJL := AyA AEo.eq_1
def AJA := AyA AEz.eq_1
def AJD := AyA AEp.eq_1
def AJT := AyA AEB.eq_1
def AMH := AyA AHD.eq_1
theorem AM7 {K : TV → Prop} {e : Env} {H : List Ob} : res AHt e H K = res [.tmp 8, .cell 9 true 2] e H K := Ayz rfl
def AAz := (And.intro (And.intro (And.intro @AJG @AJL) (And.intro @AJA @AJD)) (And.intro (And.intro @AJT @AMH) @AM7))
def AOc := AGK 30 Tryd.func43 AOm AOA rfl

def AB2 : AyD := .seq (.draw 5 [mv_ 7 0,
  mv_ 8 0,
  po_ 9 (.nilc (.t 8)),
  po_ 10 (.fieldA 0 0 (.t 9)),
  po_ 11 (.load false 1 (.t 10)),
  mv_ 12 0,
  po_ 13 (.nilc (.t 12)),
  po_ 14 (.fieldA 1 1 (.t 13)),
  po_ 15 (.load false 1 (.t 14)),
  po_ 16 (.conv .u8 (.t 15)),
  ⟨some 17, .s (.bslice 1 1 (.val (.int .u8 ((0 : Nat) : Int))) [⟨0, .t 16⟩]), none⟩,
  so_ 18 (.app 1 1 5 (.t 11) (.t 17)),
  po_ 19 (.nilc (.t 7)),
  po_ 20 (.fieldA 0 0 (.t 19)),
  ⟨none, .s (.store 1 (.t 20) (.t 18)), none⟩] [0])
 (.ops [mv_ 21 0,
  mv_ 22 0,
  po_ 23 (.nilc (.t 21)),
  po_ 24 (.fieldA 1 1 (.t 23)),
  ⟨none, .s (.store 1 (.t 24) (.c (.int .u32 ((0 : Nat) : Int)))), none⟩,
  po_ 25 (.nilc (.t 22)),
  po_ 26 (.fieldA 2 2 (.t 25)),
  ⟨none, .s (.store 1 (.t 26) (ci_ 0)), none⟩] [])
def ABU : AyD := .cond (.t 6)
 AB2
 (.skip)
def ADh : AyD := .seq (.ops [mv_ 2 0,
  po_ 3 (.nilc (.t 2)),
  po_ 4 (.fieldA 2 2 (.t 3)),
  po_ 5 (.load false 1 (.t 4)),
  po_ 6 (.bin 3 .gtr (.t 5) (ci_ 0))] [0, 6])
 ABU
def ADf : List VR := []
theorem AKB : Tryd.f46.body.bind (trC Tryd.prog Tryd.f46.ntmps) = some (er ADh) := by kernel_rfl
theorem AKL : trR Tryd.prog Tryd.f46.results.toList = some ADf := by kernel_rfl
def AGj := AyA AB2.eq_1
def AGJ := AyA ABU.eq_1
def AI4 := AyA ADh.eq_1
theorem AIH {K : TV → Prop} {e : Env} {H : List Ob} : res ADf e H K = res [] e H K := Ayz rfl
def AAv := (And.intro (And.intro @AGj @AGJ) (And.intro @AI4 @AIH))
def AJJ := AGK 27 Tryd.func46 AKB AKL rfl

end Go.Proofs.YtfgljddikcghhaaDoor


namespace Go.Proofs.YtfgljddikcghhaaDoor
open Go.RowKit
variable [AyP]
set_option linter.unusedSectionVars false
set_option linter.unusedVariables false
set_option linter.unusedSimpArgs false

/-- The writer. -/
abbrev wrt (o : TV) (held count : Nat) : Ob := .obj 0 (.agg [o, u32 held, i64 (count : Int)])
/-- The bits that it has. -/
structure AUR (H : List Ob) (id : Nat) (B : List Bool) (J : Option Nat) : Prop where
 ex : ∃ (o : TV) (l : List UInt8) (h c : Nat), H[id]? = some (wrt o h c) ∧ AUT H o l J ∧ c ≤ 7 ∧ h < 2 ^ c ∧ B = AAg l ++ AyR c h
 ne : J ≠ some id
section
omit [AyP]
theorem AHJ (a b : List UInt8) : AAg (a ++ b) = AAg a ++ AAg b := by simp [AAg]
theorem AUI : ∀ (n v : Nat), AyR n (v % 2 ^ n) = AyR n v
 | 0, v => rfl
 | n + 1, v => by
  rw [AyR, AyR, Nat.pow_succ, Nat.mul_comm (2 ^ n) 2, Nat.mod_mul_right_mod, Nat.mod_mul_right_div_self, AUI n]
theorem AZE {c h : Nat} (hc : 8 ≤ c) : AyR 8 (UInt8.ofNat h).toNat ++ AyR (c - 8) (h / 2 ^ 8) = AyR c h := by
 rw [UInt8.toNat_ofNat', AUI, ← AOS 8 c h hc, ← AOI 8 c h hc, List.take_append_drop]
theorem AR6 : ∀ n, AyR n 0 = List.replicate n false
 | 0 => rfl
 | n + 1 => by rw [AyR, Nat.zero_div, AR6 n]; rfl
theorem ASN (b : UInt8) : AAg [b] = AyR 8 b.toNat := by simp [AAg]
end
theorem ATl {id n v : Nat} {B : List Bool} {J : Option Nat} {H : List Ob} (hw : AUR H id B J) (hn : n ≤ 16) (hv : v < 2 ^ n) (hB : B.length ≤ 8000000) :
  AyW Tryd.prog 41 [.op id 0 [], i64 (v : Int), i64 (n : Int)] H (fun x H' => ∃ j, AUR H' id (B ++ AyR n v) (some j) ∧ Frm id J H H' ∧ (J = some j ∨ H.length ≤ j)) := by
 obtain ⟨⟨o, l, h, c, h1, h2, h3, h4, rfl⟩, hne⟩ := hw
 have hid : id < H.length := (List.getElem?_eq_some_iff.1 h1).1
 have hl : l.length ≤ 1000000 := by rw [List.length_append, AzZ] at hB; omega
 have hpc : 2 ^ c ≤ 2 ^ 7 := Nat.pow_le_pow_right (by omega) h3
 have hpn : 2 ^ n ≤ 2 ^ 16 := Nat.pow_le_pow_right (by omega) hn
 have hw32 : IntKind.u32.wrap (v : Int) = v := ARX (by omega)
 have hvc : v * 2 ^ c ≤ 65536 * 128 := Nat.mul_le_mul (by omega) (by omega)
 have hor : h ||| v * 2 ^ c = h + v * 2 ^ c := ASo h4
 have hlt : h + v * 2 ^ c < 2 ^ (c + n) := by
  have : (v + 1) * 2 ^ c ≤ 2 ^ n * 2 ^ c := Nat.mul_le_mul_right _ hv
  rw [Nat.pow_add, Nat.mul_comm (2 ^ c)]; rw [Nat.add_mul] at this; omega
 have hbits : AyR (c + n) (h + v * 2 ^ c) = AyR c h ++ AyR n v := AGr c n h v h4
 refine AKR (by simp) ?_
 -- the loop, behind the row is there
 have loop : ∀ (H1 : List Ob) (j w : Nat) {L : VEx → Env → List Ob → Prop}, H1[id]? = some (wrt (.os 1 j w [] 0 l.length l.length) (h + v * 2 ^ c) (c + n)) → H1[j]? = some (.obj w (.arr l.length 1 (l.map by8))) → j ≠ id → Frm id J H H1 → (J = some j ∨ H.length ≤ j) →
   (∀ (H' : List Ob) x, AUR H' id (AAg l ++ AyR c h ++ AyR n v) (some j) → Frm id J H H' → L .nor [(0, .op id 0 []), (32, x)] H') → vwp Tryd.prog (.loop [0] Az9) (Blk 0 L) [(0, .op id 0 [])] H1 := by
  intro H1 j w L g1 g2 g3 g4 g5 hL
  refine Azr (fun q e H' => ∃ (l1 : List UInt8) (h1 c1 w1 : Nat), q = c1 ∧ H1.length ≤ H'.length ∧ e = [(0, .op id 0 [])] ∧ H'[id]? = some (wrt (.os 1 j w1 [] 0 l1.length l1.length) h1 c1) ∧ H'[j]? = some (.obj w1 (.arr l1.length 1 (l1.map by8))) ∧ Frm id J H H' ∧ c1 ≤ 23 ∧ h1 < 2 ^ c1 ∧ l1.length ≤ 1000010 ∧ AAg l1 ++ AyR c1 h1 = AAg l ++ AyR c h ++ AyR n v) (c + n) ?_ ?_
  ·exact ⟨l, _, _, w, rfl, Nat.le_refl _, rfl, g1, g2, g4, by omega, hlt, by omega, by rw [hbits, List.append_assoc]⟩
  ·rintro q e H' ⟨l1, h1, c1, w1, hq, k0, rfl, k1, k2, k3, k4, k5, k6, k7⟩
   have hid' : id < H'.length := (List.getElem?_eq_some_iff.1 k1).1
   have hj' : j < H'.length := (List.getElem?_eq_some_iff.1 k2).1
   by_cases hc8 : 8 ≤ c1
   ·simp -dsimp (disch := first | assumption | omega | (simp only [AyC]; done) | (simp only [AyC]; omega)) only [↓AyE, AyB, AyG, AyF, eq_self, Nat.reduceEqDiff, Nat.reducePow, ↓reduceIte, Nat.reduceAdd, reduceCtorEq, Nat.reduceLeDiff, ↓Aze, k1, k2, AGf, AU5]
    have hji : ¬ id = j := fun e => g3 e.symm
    have hp8 : h1 / 256 < 2 ^ (c1 - 8) := by
     rw [Nat.div_lt_iff_lt_mul (by omega), show 256 = 2 ^ 8 from rfl, ← Nat.pow_add, show c1 - 8 + 8 = c1 by omega]; exact k5
    refine AyL (c1 - 8) (by omega) (by simp; omega) ⟨l1 ++ [UInt8.ofNat h1], h1 / 256, c1 - 8, w1 + 1, rfl, by simp; omega, rfl, ?_, ?_, ⟨?_, fun i hi e1 e2 => ?_⟩, by omega, hp8, ?_, ?_⟩
    ·rw [List.getElem?_append_left (by simpa using hid'), List.getElem?_set_self (by simpa using hid')]; simp
    ·rw [List.getElem?_append_left (by simpa using hj'), List.getElem?_set_ne hji, List.getElem?_set_self hj']; simp
    ·have := k3.1; simp; omega
    ·have h3' := k3.1
     have e3 : j ≠ i := by
      rintro rfl
      rcases g5 with e | e
      ·exact e2 e
      ·omega
     rw [List.getElem?_append_left (by simp; omega), List.getElem?_set_ne (Ne.symm e1), List.getElem?_set_ne e3]
     exact k3.2 i hi e1 e2
    ·have hx := congrArg List.length k7
     simp only [List.length_append, AzZ, AyU] at hx hB ⊢
     simp only [List.length_cons, List.length_nil]; omega
    ·rw [AHJ, ASN, List.append_assoc, show h1 / 256 = h1 / 2 ^ 8 from rfl, AZE hc8]; exact k7
   ·simp -dsimp (disch := first | assumption | omega | (simp only [AyC]; done) | (simp only [AyC]; omega)) only [↓AyE, AyB, AyG, AyF, eq_self, ↓reduceIte, Nat.reduceAdd, reduceCtorEq, ↓Aze, k1]
    exact hL _ _ ⟨⟨_, l1, h1, c1, k1, ⟨w1, rfl, k2⟩, by omega, k5, k7.symm⟩, by simpa using g3⟩ k3
 cases J with
 | none =>
  obtain ⟨rfl, rfl⟩ := h2
  simp -dsimp (disch := first | assumption | omega | (simp only [AyC]; done) | (simp only [AyC]; omega)) only [↓AyE, AyB, AyG, AyF, eq_self, Nat.reduceEqDiff, ↓reduceIte, Nat.reduceAdd, reduceCtorEq, ↓Aze, h1, hw32, hor, APw, AUj]
  refine loop _ H.length 0 ?_ ?_ (by omega) ⟨by simp, fun i hi e1 _ => ?_⟩ (.inr (Nat.le_refl _)) fun H' x w1 w2 => ?_
  ·rw [List.getElem?_append_left (by simpa using hid), List.getElem?_set_self hid]; rfl
  ·rw [List.getElem?_append_right (by simp)]; simp
  ·rw [List.getElem?_append_left (by simpa using hi), List.getElem?_set_ne (Ne.symm e1)]
  ·simp -dsimp (disch := first | assumption | omega | (simp only [AyC]; done) | (simp only [AyC]; omega)) only [↓AyE, ↓Aze]
   exact ⟨_, w1, w2, .inr (Nat.le_refl _)⟩
 | some j =>
  obtain ⟨w, rfl, hj⟩ := h2
  have hji : j ≠ id := fun e => hne (by rw [e])
  have hji' : id ≠ j := fun e => hji e.symm
  simp -dsimp (disch := first | assumption | omega | (simp only [AyC]; done) | (simp only [AyC]; omega)) only [↓AyE, AyB, AyG, AyF, eq_self, Nat.reduceEqDiff, ↓reduceIte, Nat.reduceAdd, reduceCtorEq, ↓Aze, h1, hw32, hor, APw, AUj]
  refine loop _ j w ?_ ?_ hji ⟨by simp, fun i hi e1 _ => ?_⟩ (.inl rfl) fun H' x w1 w2 => ?_
  ·rw [List.getElem?_set_self hid]
  ·rw [List.getElem?_set_ne hji']; exact hj
  ·rw [List.getElem?_set_ne (Ne.symm e1)]
  ·simp -dsimp (disch := first | assumption | omega | (simp only [AyC]; done) | (simp only [AyC]; omega)) only [↓AyE, ↓Aze]
   exact ⟨_, w1, w2, .inl rfl⟩
/-- Bits up to the next byte. -/
theorem A5n {id : Nat} {B : List Bool} {J : Option Nat} {H : List Ob} (hw : AUR H id B J) (hB : B.length ≤ 8000000) :
  AyW Tryd.prog 46 [.op id 0 []] H (fun x H' => ∃ (o : TV) (l : List UInt8) (J' : Option Nat), H'[id]? = some (wrt o 0 0) ∧ AUT H' o l J' ∧ AAg l = B ++ List.replicate ((8 - B.length % 8) % 8) false ∧ Frm id J H H' ∧ Jn J J' H) := by
 obtain ⟨⟨o, l, h, c, h1, h2, h3, h4, rfl⟩, hne⟩ := hw
 have hid : id < H.length := (List.getElem?_eq_some_iff.1 h1).1
 have hl : l.length ≤ 1000000 := by rw [List.length_append, AzZ] at hB; omega
 have hpc : 2 ^ c ≤ 2 ^ 7 := Nat.pow_le_pow_right (by omega) h3
 have hw8 : AyR 8 (UInt8.ofNat h).toNat = AyR c h ++ List.replicate (8 - c) false := by
  rw [UInt8.toNat_ofNat', Nat.mod_eq_of_lt (by omega), ← AR6 (8 - c)]
  have := AGr c (8 - c) h 0 h4
  rw [Nat.zero_mul, Nat.add_zero, show c + (8 - c) = 8 by omega] at this
  exact this
 have hpad : (8 - (AAg l ++ AyR c h).length % 8) % 8 = if c = 0 then 0 else 8 - c := by
  rw [List.length_append, AzZ, AyU]
  split <;> omega
 rw [hpad]
 refine AJJ (by simp) ?_
 by_cases hc : c = 0
 ·subst hc
  have hh : h = 0 := by simpa using h4
  subst hh
  have hwo := h2.width1
  simp -dsimp (disch := first | assumption | omega | (simp only [AyC]; done) | (simp only [AyC]; omega)) only [↓AyE, AyB, AyG, AyF, eq_self, Nat.reduceLT, ↓reduceIte, Nat.reduceAdd, reduceCtorEq, ↓AAv, h1, hwo]
  exact ⟨o, l, J, rfl, h2, by simp [AyR], Frm.refl, Jn.refl⟩
 ·rw [if_neg hc]
  cases J with
  | none =>
   obtain ⟨rfl, rfl⟩ := h2
   simp -dsimp (disch := first | assumption | omega | (simp only [AyC]; done) | (simp only [AyC]; omega)) only [↓AyE, AyB, AyG, AyF, eq_self, Nat.reduceEqDiff, ↓reduceIte, Nat.reduceAdd, reduceCtorEq, Nat.reduceLeDiff, ↓AAv, h1, AGf]
   refine ⟨_, [UInt8.ofNat h], some (H.length + 1), rfl, ⟨1, rfl, ?_⟩, ?_, ⟨?_, fun i hi e1 e2 => ?_⟩, .inr fun j e => ?_⟩
   ·rw [List.getElem?_append_right (by simp)]; simp
   ·rw [ASN, hw8]; rfl
   ·simp only [List.length_append, List.length_set]; omega
   ·rw [List.append_assoc, List.getElem?_append_left (by simpa using hi), List.getElem?_set_ne (Ne.symm e1)]
   ·cases e; omega
  | some j =>
   obtain ⟨w, rfl, hj⟩ := h2
   have hji : j ≠ id := fun e => hne (by rw [e])
   have hji' : id ≠ j := fun e => hji e.symm
   have hjl : j < H.length := (List.getElem?_eq_some_iff.1 hj).1
   simp -dsimp (disch := first | assumption | omega | (simp only [AyC]; done) | (simp only [AyC]; omega)) only [↓AyE, AyB, AyG, AyF, eq_self, Nat.reduceEqDiff, ↓reduceIte, Nat.reduceAdd, reduceCtorEq, Nat.reduceLeDiff, ↓AAv, h1, hj, AGf]
   refine ⟨_, l ++ [UInt8.ofNat h], some j, ?_, ⟨w + 1, rfl, ?_⟩, ?_, ⟨?_, fun i hi e1 e2 => ?_⟩, .inl rfl⟩
   ·simp
   ·rw [List.getElem?_append_left (by simpa using hjl), List.getElem?_set_ne hji', List.getElem?_set_self hjl]; simp
   ·rw [AHJ, ASN, hw8, List.append_assoc]
   ·simp
   ·have e3 : j ≠ i := fun e => e2 (by rw [e])
    rw [List.getElem?_append_left (by simpa using hi), List.getElem?_set_ne (Ne.symm e1), List.getElem?_set_ne e3]
end Go.Proofs.YtfgljddikcghhaaDoor


namespace Go.Proofs.YtfgljddikcghhaaDoor
open Go.RowKit
variable [AyP]
set_option linter.unusedSectionVars false
set_option linter.unusedVariables false
set_option linter.unusedSimpArgs false

section
omit [AyP]
/-- Three bytes. -/
def AJ9 (b : List UInt8) (i : Nat) : List UInt8 := (b.drop i).take 3
/-- Where they stood last, ahead of i, and 1; 0: nowhere. -/
def ADa (b k : List UInt8) : Nat → Nat
 | 0 => 0
 | i + 1 => if i + 3 ≤ b.length ∧ AJ9 b i = k then i + 1 else ADa b k i
def pv (b : List UInt8) (q : Nat) : Nat := ADa b (AJ9 b q) q
/-- How many bytes are alike. -/
def ALU (b : List UInt8) (j i : Nat) : Nat → Nat → Nat
 | 0, k => k
 | f + 1, k => if k < 258 ∧ i + k < b.length ∧ b[j + k]? = b[i + k]? then ALU b j i f (k + 1) else k
/-- The longest copy among so many places. -/
def look (b : List UInt8) (i : Nat) : Nat → Nat → Nat × Nat → Nat × Nat
 | 0, _, t => t
 | f + 1, at_, t => if at_ = 0 ∨ 32768 < i - (at_ - 1) then t else
   look b i f (pv b (at_ - 1)) (if t.1 < ALU b (at_ - 1) i 255 3 then (ALU b (at_ - 1) i 255 3, i - (at_ - 1)) else t)
def Azj (b : List UInt8) (i : Nat) : Nat × Nat := if i + 3 ≤ b.length then look b i 150 (ADa b (AJ9 b i) i) (0, 0) else (0, 0)
def APc (b : List UInt8) : Nat → Nat → List (Nat × Nat)
 | 0, _ => []
 | f + 1, i => if i < b.length then Azj b i :: APc b f (i + max (Azj b i).1 1) else []
theorem AEc (b k : List UInt8) : ∀ i, ADa b k i ≤ i
 | 0 => Nat.le_refl _
 | i + 1 => by rw [ADa]; split; exact Nat.le_refl _; exact Nat.le_succ_of_le (AEc b k i)
theorem ACs (b k : List UInt8) : ∀ i, ADa b k i ≠ 0 → ADa b k i - 1 + 3 ≤ b.length ∧ AJ9 b (ADa b k i - 1) = k
 | 0, h => absurd rfl h
 | i + 1, h => by
  rw [ADa] at h ⊢
  split
  ·rename_i hc; simpa using hc
  ·rename_i hc; rw [if_neg hc] at h; exact ACs b k i h
theorem AQR {b : List UInt8} {j i : Nat} : ∀ {f k : Nat}, k ≤ 258 → ALU b j i f k ≤ 258
 | 0, k, h => h
 | f + 1, k, h => by
  rw [ALU]; split
  ·exact AQR (by omega)
  ·exact h
theorem AVK {b : List UInt8} {j i : Nat} : ∀ {f k : Nat}, k ≤ ALU b j i f k
 | 0, k => Nat.le_refl _
 | f + 1, k => by
  rw [ALU]; split
  ·exact Nat.le_trans (Nat.le_succ k) AVK
  ·exact Nat.le_refl _
theorem AWx {b : List UInt8} {i : Nat} (h : i + 3 ≤ b.length) : (AJ9 b i).length = 3 := by simp [AJ9]; omega
end
section
omit [AyP]
theorem AOT {b : List UInt8} {j i : Nat} : ∀ {f k : Nat}, i + k ≤ b.length → i + ALU b j i f k ≤ b.length
 | 0, k, h => h
 | f + 1, k, h => by
  rw [ALU]; split
  ·exact AOT (by omega)
  ·exact h
theorem A5o {b : List UInt8} {j i k : Nat} (h1 : k < 258) (h2 : i + k < b.length) (h3 : b[j + k]? = b[i + k]?) : ALU b j i (258 - k) k = ALU b j i (258 - (k + 1)) (k + 1) := by
 rw [show 258 - k = (258 - (k + 1)) + 1 by omega, ALU, if_pos ⟨h1, h2, h3⟩]
theorem ASH {b : List UInt8} {j i k : Nat} (h : ¬ (k < 258 ∧ i + k < b.length ∧ b[j + k]? = b[i + k]?)) : ALU b j i (258 - k) k = k := by
 cases e : 258 - k with
 | zero => rfl
 | succ f => rw [ALU, if_neg h]
end
/-- The table: of each A2m bytes where they stood last. -/
def A9j (es : List (List UInt8 × TV)) (f : List UInt8 → Nat) : Prop := ∀ y, (ANG y es).getD (i64 ((0 : Nat) : Int)) = i64 ((f y : Nat) : Int)
def A9R (es : List (List UInt8 × TV)) : Prop := ∀ g, ADU g (es.map (·.2)) = true
theorem A77 {k l : List UInt8} {x : TV} : ∀ {es : List (List UInt8 × TV)}, ANG k (AOq l x es) = if l = k then some x else ANG k es
 | [] => by simp [AOq, ANG]
 | (q, y) :: es => by
  rw [AOq]
  by_cases hq : q = l
  ·subst hq
   rw [if_pos rfl, ANG, ANG]
   by_cases h : q = k <;> simp [h]
  ·rw [if_neg hq, ANG, ANG, A77]
   by_cases h : q = k
   ·subst h; rw [if_pos rfl, if_neg (fun e => hq e.symm), if_pos rfl]
   ·rw [if_neg h, if_neg h]
theorem A9j.put {es : List (List UInt8 × TV)} {f : List UInt8 → Nat} (h : A9j es f) (p : List UInt8) (n : Nat) : A9j (AOq p (i64 ((n : Nat) : Int)) es) (fun y => if p = y then n else f y) := by
 intro y
 rw [A77]
 by_cases e : p = y
 ·simp [e]
 ·simp only [if_neg e]; exact h y
theorem A9R.put {es : List (List UInt8 × TV)} (h : A9R es) {k : List UInt8} {x : TV} (hx : ∀ g, ABP g x = true) : A9R (AOq k x es) := by
 intro g
 have h1 := h g
 clear h
 induction es with
 | nil => rw [AOq, List.map_cons, ADU, hx g]; rfl
 | cons e es ih =>
  obtain ⟨q, y⟩ := e
  rw [List.map_cons, ADU, Bool.and_eq_true] at h1
  rw [AOq]
  split
  ·rw [List.map_cons, ADU, hx g, h1.2]; rfl
  ·rw [List.map_cons, ADU, h1.1, ih h1.2]; rfl
abbrev AXY (l : List Nat) : List TV := l.map fun (n : Nat) => i64 (n : Int)
theorem AV6 {l : List Nat} {i n : Nat} : (AXY l).set i (i64 (n : Int)) = AXY (l.set i n) := by simp [AXY, List.map_set]
theorem Bbo {b : List UInt8} {i : Nat} {es : List (List UInt8 × TV)} {ah : List Nat} {H : List Ob} (hi : i ≤ b.length) (hb : b.length ≤ 1000000) (h0 : H[0]? = some (.obj 0 (slB b))) (h1 : H[1]? = some (.mpo (.arr 3) es)) (h2 : H[2]? = some (.obj 0 (.mp 1 0))) (h3 : H[3]? = some (.obj 0 (.arr b.length 1 (AXY ah)))) (h4 : H[4]? = some (.obj 0 (.os 1 3 0 [] 0 b.length b.length)))
  (hl : ah.length = b.length) (hc : A9j es (fun k => ADa b k i)) :
  AyW Tryd.prog 57 [i64 (i : Int), .op 0 0 [], .op 2 0 [], .op 4 0 []] H (fun x H' => if i + 3 ≤ b.length then ∃ o, H' = (H.set 3 (.obj 0 (.arr b.length 1 (AXY (ah.set i (pv b i)))))).set 1 (.mpo (.arr 3) (AOq (AJ9 b i) (i64 ((i + 1 : Nat) : Int)) es)) ++ [o] else H' = H) := by
 refine AN7 (by simp) ?_
 by_cases hf : i + 3 ≤ b.length
 ·simp only [if_pos hf]
  have hgl := AWx hf
  have hl4 : 4 < H.length := (List.getElem?_eq_some_iff.1 h4).1
  have hcp : (ANG (List.take 3 (List.drop i b)) es).getD (i64 ((0 : Nat) : Int)) = i64 ((pv b i : Nat) : Int) := hc (AJ9 b i)
  obtain ⟨a, hai⟩ : ∃ a, ah[i]? = some a := ⟨_, List.getElem?_eq_getElem (by omega)⟩
  have hl1 : ((H.set 3 (.obj 0 (.arr b.length 1 (AXY (ah.set i (pv b i))))))[1]?) = some (.mpo (.arr 3) es) := by rw [List.getElem?_set_ne (by omega)]; exact h1
  simp -dsimp (disch := first | assumption | omega | (simp only [AyC]; done) | (simp only [AyC]; omega)) only [↓AyE, AyB, AyG, AyF, eq_self, Nat.reduceLT, Nat.reduceEqDiff, ↓reduceIte, Nat.reduceAdd, reduceCtorEq, ↓AHx, h0, h1, h2, h3, h4, hcp, hai]
  exact ⟨_, by rw [AV6]; rfl⟩
 ·simp only [if_neg hf]
  simp -dsimp (disch := first | assumption | omega | (simp only [AyC]; done) | (simp only [AyC]; omega)) only [↓AyE, AyB, AyG, AyF, eq_self, Nat.reduceEqDiff, ↓reduceIte, Nat.reduceAdd, reduceCtorEq, ↓AHx, h0]
abbrev tkT (t : Nat × Nat) : TV := .agg [i64 (t.1 : Int), i64 (t.2 : Int)]
/-- The objects of tokens. -/
abbrev tkH (b : List UInt8) (es : List (List UInt8 × TV)) (ah : List Nat) (v : Nat) (l : List (Nat × Nat)) : List Ob :=
 [.obj 0 (slB b), .mpo (.arr 3) es, .obj 0 (.mp 1 0), .obj 0 (.arr b.length 1 (AXY ah)), .obj 0 (.os 1 3 0 [] 0 b.length b.length), .obj v (.arr l.length 2 (l.map tkT))]
abbrev tkF : TV := .fn (.func 57) [] [.op 0 0 [], .op 2 0 [], .op 4 0 []]
/-- Where we are. -/
structure AX3 (b : List UInt8) (i : Nat) (es : List (List UInt8 × TV)) (ah : List Nat) : Prop where
 cnt : A9j es (fun k => ADa b k i)
 bel : A9R es
 len : ah.length = b.length
 at_ : ∀ q, q < i → q + 3 ≤ b.length → ah[q]? = some (pv b q)
theorem AX3.next {b : List UInt8} {i : Nat} {es : List (List UInt8 × TV)} {ah : List Nat} (h : AX3 b i es ah) (hi : i + 3 ≤ b.length) : AX3 b (i + 1) (AOq (AJ9 b i) (i64 ((i + 1 : Nat) : Int)) es) (ah.set i (pv b i)) := by
 refine ⟨?_, h.bel.put fun g => rfl, by simpa using h.len, fun q hq hq3 => ?_⟩
 ·have := h.cnt.put (AJ9 b i) (i + 1)
  intro y
  rw [this y]
  simp only [ADa, hi, true_and]
 ·by_cases e : i = q
  ·subst e; rw [List.getElem?_set_self (by rw [h.len]; omega)]
  ·rw [List.getElem?_set_ne e]; exact h.at_ q (by omega) hq3
theorem AX3.skip {b : List UInt8} {i : Nat} {es : List (List UInt8 × TV)} {ah : List Nat} (h : AX3 b i es ah) (hi : ¬ i + 3 ≤ b.length) : AX3 b (i + 1) es ah :=
 ⟨fun y => by rw [h.cnt y]; simp only [ADa, hi, false_and, if_false], h.bel, h.len, fun q hq hq3 => h.at_ q (by omega) hq3⟩
/-- How far the bytes are alike. -/
theorem A1G {b : List UInt8} {i p m : Nat} {es : List (List UInt8 × TV)} {ah : List Nat} {v : Nat} {l : List (Nat × Nat)} {t : Nat × Nat} {Q : VEx → Env → List Ob → Prop} (hb : b.length ≤ 1000000) (hp : p < i) (hi : i + 3 ≤ b.length)
  (h : ∀ y, Q .nor [(1, .op 0 0 []), (3, .os 2 5 v [] 0 l.length l.length), (4, .op 2 0 []), (5, .op 4 0 []), (6, tkF), (7, i64 (i : Int)), (8, .op 6 0 []), (9, i64 ((p + 1 : Nat) : Int)), (10, i64 (m : Int)), (11, i64 ((ALU b p i 255 3 : Nat) : Int)), (74, y)] (tkH b es ah v l ++ [.obj 0 (tkT t)])) :
  vwp Tryd.prog (.loop [1, 3, 4, 5, 6, 7, 8, 9, 10, 11] ACo) (Blk 4 Q) [(1, .op 0 0 []), (3, .os 2 5 v [] 0 l.length l.length), (4, .op 2 0 []), (5, .op 4 0 []), (6, tkF), (7, i64 (i : Int)), (8, .op 6 0 []), (9, i64 ((p + 1 : Nat) : Int)), (10, i64 (m : Int)), (11, i64 ((3 : Nat) : Int))] (tkH b es ah v l ++ [.obj 0 (tkT t)]) := by
 refine Azr (fun q e H => ∃ k, q = 258 - k ∧ 3 ≤ k ∧ k ≤ 258 ∧ i + k ≤ b.length ∧ ALU b p i (258 - k) k = ALU b p i 255 3 ∧ e = [(1, .op 0 0 []), (3, .os 2 5 v [] 0 l.length l.length), (4, .op 2 0 []), (5, .op 4 0 []), (6, tkF), (7, i64 (i : Int)), (8, .op 6 0 []), (9, i64 ((p + 1 : Nat) : Int)), (10, i64 (m : Int)), (11, i64 (k : Int))] ∧ H = tkH b es ah v l ++ [.obj 0 (tkT t)]) 255 ?_ ?_
 ·exact ⟨3, rfl, by omega, by omega, by omega, rfl, rfl, rfl⟩
 ·rintro q e H ⟨k, hq, k1, k2, k3, k4, rfl, rfl⟩
  by_cases h1 : k < 258
  ·by_cases h2 : i + k < b.length
   ·obtain ⟨x, hx⟩ : ∃ x, b[p + k]? = some x := ⟨_, List.getElem?_eq_getElem (by omega)⟩
    obtain ⟨y, hy⟩ : ∃ y, b[i + k]? = some y := ⟨_, List.getElem?_eq_getElem h2⟩
    by_cases hxy : x.toNat = y.toNat
    ·simp -dsimp (disch := first | assumption | omega) only [↓AyE, AyB, AyG, AyF, eq_self, Nat.reduceEqDiff, ↓reduceIte, Nat.reduceAdd, ↓AyQ, hx, hy]
     refine AyL (258 - (k + 1)) (by omega) (by simp) ⟨k + 1, rfl, by omega, by omega, by omega, ?_, rfl, rfl⟩
     rw [← k4, A5o h1 h2 (by rw [hx, hy, UInt8.toNat_inj.1 hxy])]
    ·simp -dsimp (disch := first | assumption | omega) only [↓AyE, AyB, AyG, AyF, eq_self, Nat.reduceEqDiff, ↓reduceIte, ↓AyQ, hx, hy]
     rw [← ASH (b := b) (j := p) (i := i) (k := k) (fun h => hxy (by rw [hx, hy] at h; rw [Option.some.inj h.2.2])), k4]
     exact h _
   ·simp -dsimp (disch := first | assumption | omega) only [↓AyE, AyB, AyG, AyF, eq_self, Nat.reduceEqDiff, ↓reduceIte, ↓AyQ]
    rw [← ASH (b := b) (j := p) (i := i) (k := k) (fun h => h2 h.2.1), k4]
    exact h _
  ·simp -dsimp (disch := first | assumption | omega) only [↓AyE, AyB, AyG, AyF, eq_self, Nat.reduceEqDiff, ↓reduceIte, ↓AyQ]
   rw [← ASH (b := b) (j := p) (i := i) (k := k) (fun h => h1 h.1), k4]
   exact h _
section
omit [AyP]
theorem AUf {b : List UInt8} {i : Nat} (hi : i < b.length) : ∀ {f at_ : Nat} {t : Nat × Nat}, i + 3 ≤ b.length → i + t.1 ≤ b.length ∧ t.1 ≤ 258 ∧ t.2 ≤ 32768 → i + (look b i f at_ t).1 ≤ b.length ∧ (look b i f at_ t).1 ≤ 258 ∧ (look b i f at_ t).2 ≤ 32768
 | 0, at_, t, _, h => h
 | f + 1, at_, t, h3, h => by
  rw [look]; split
  ·exact h
  ·rename_i hc
   refine AUf hi h3 ?_
   split
   ·exact ⟨AOT (by omega), AQR (by omega), by omega⟩
   ·exact h
end
/-- The longest copy. -/
theorem A5H {b : List UInt8} {i : Nat} {es : List (List UInt8 × TV)} {ah : List Nat} {v : Nat} {l : List (Nat × Nat)} {Q : VEx → Env → List Ob → Prop} (hb : b.length ≤ 1000000) (hi : i + 3 ≤ b.length) (hk : AX3 b i es ah)
  (h : ∀ y z w, Q .nor [(1, .op 0 0 []), (3, .os 2 5 v [] 0 l.length l.length), (4, .op 2 0 []), (5, .op 4 0 []), (6, tkF), (7, i64 (i : Int)), (8, .op 6 0 []), (9, y), (10, z), (46, w)] (tkH b es ah v l ++ [.obj 0 (tkT (Azj b i))])) :
  vwp Tryd.prog (.loop [1, 3, 4, 5, 6, 7, 8, 9, 10] ACm) (Blk 2 Q) [(1, .op 0 0 []), (3, .os 2 5 v [] 0 l.length l.length), (4, .op 2 0 []), (5, .op 4 0 []), (6, tkF), (7, i64 (i : Int)), (8, .op 6 0 []), (9, i64 ((ADa b (AJ9 b i) i : Nat) : Int)), (10, i64 ((0 : Nat) : Int))] (tkH b es ah v l ++ [.obj 0 (tkT (0, 0))]) := by
 have hf : Azj b i = look b i 150 (ADa b (AJ9 b i) i) (0, 0) := by rw [Azj, if_pos hi]
 refine Azr (fun q e H => ∃ m at_ t, q = 150 - m ∧ m ≤ 150 ∧ at_ ≤ i ∧ (at_ ≠ 0 → at_ - 1 + 3 ≤ b.length ∧ AJ9 b (at_ - 1) = AJ9 b i) ∧ (i + t.1 ≤ b.length ∧ t.1 ≤ 258 ∧ t.2 ≤ 32768) ∧ look b i (150 - m) at_ t = Azj b i ∧ e = [(1, .op 0 0 []), (3, .os 2 5 v [] 0 l.length l.length), (4, .op 2 0 []), (5, .op 4 0 []), (6, tkF), (7, i64 (i : Int)), (8, .op 6 0 []), (9, i64 (at_ : Int)), (10, i64 (m : Int))] ∧ H = tkH b es ah v l ++ [.obj 0 (tkT t)]) 150 ?_ ?_
 ·exact ⟨0, _, (0, 0), rfl, by omega, AEc _ _ _, fun h => ACs _ _ _ h, ⟨by simp; omega, by simp, by simp⟩, hf.symm, rfl, rfl⟩
 ·rintro q e H ⟨m, at_, t, hq, hm, ha, hg, ⟨ht1, ht2, ht3⟩, hl, rfl, rfl⟩
  have fin : ¬ (m < 150 ∧ at_ ≠ 0 ∧ ¬ 32768 < i - (at_ - 1)) → t = Azj b i := by
   intro hn
   rw [← hl]
   by_cases hm' : m < 150
   ·rw [show 150 - m = (150 - (m + 1)) + 1 by omega, look, if_pos (by omega)]
   ·rw [show 150 - m = 0 by omega, look]
  by_cases h1 : m < 150
  ·by_cases h2 : at_ = 0
   ·have := fin (by omega)
    subst h2
    subst this
    simp -dsimp (disch := first | assumption | omega) only [↓AyE, AyB, AyG, AyF, eq_self, Nat.reduceLT, Nat.reduceEqDiff, ↓reduceIte, ↓AyQ]
    exact h _ _ _
   ·obtain ⟨p, rfl⟩ : ∃ p, at_ = p + 1 := ⟨at_ - 1, by omega⟩
    obtain ⟨hg1, hg2⟩ := hg h2
    rw [Nat.add_sub_cancel] at hg1 hg2 fin
    by_cases h3 : 32768 < i - p
    ·have := fin (by omega)
     subst this
     simp -dsimp (disch := first | assumption | omega) only [↓AyE, AyB, AyG, AyF, eq_self, Nat.reduceEqDiff, ↓reduceIte, ↓AyQ]
     exact h _ _ _
    ·have hpi : p < i := by omega
     have hah := hk.at_ p hpi hg1
     simp -dsimp (disch := first | assumption | omega) only [↓AyE, AyB, AyG, AyF, eq_self, Nat.reduceEqDiff, ↓reduceIte, Nat.reduceAdd, ↓AyQ]
     refine A1G (m := m) hb hpi hi fun y => ?_
     have hml1 := AVK (b := b) (j := p) (i := i) (f := 255) (k := 3)
     have hml2 := AQR (b := b) (j := p) (i := i) (f := 255) (k := 3) (by omega)
     have hml3 := AOT (b := b) (j := p) (i := i) (f := 255) (k := 3) hi
     have hst : look b i (150 - m) (p + 1) t = look b i (150 - (m + 1)) (pv b p) (if t.1 < ALU b p i 255 3 then (ALU b p i 255 3, i - p) else t) := by
      rw [show 150 - m = (150 - (m + 1)) + 1 by omega, look, Nat.add_sub_cancel, if_neg (by omega)]
     by_cases h4 : t.1 < ALU b p i 255 3
     ·simp -dsimp (disch := first | assumption | omega) only [↓AyE, AyB, AyG, AyF, eq_self, Nat.reduceEqDiff, ↓reduceIte, Nat.reduceAdd, ↓AyQ, hah]
      refine AyL (150 - (m + 1)) (by omega) (by simp) ⟨m + 1, pv b p, (ALU b p i 255 3, i - p), rfl, by omega, by have := AEc b (AJ9 b p) p; unfold pv; omega, fun hne => ?_, ⟨hml3, hml2, by simp only []; omega⟩, ?_, rfl, rfl⟩
      ·obtain ⟨w1, w2⟩ := ACs b (AJ9 b p) p hne
       exact ⟨w1, w2.trans hg2⟩
      ·rw [← hl, hst, if_pos h4]
     ·simp -dsimp (disch := first | assumption | omega) only [↓AyE, AyB, AyG, AyF, eq_self, Nat.reduceEqDiff, ↓reduceIte, ↓AyQ, hah]
      refine AyL (150 - (m + 1)) (by omega) (by simp) ⟨m + 1, pv b p, t, rfl, by omega, by have := AEc b (AJ9 b p) p; unfold pv; omega, fun hne => ?_, ⟨ht1, ht2, ht3⟩, ?_, rfl, rfl⟩
      ·obtain ⟨w1, w2⟩ := ACs b (AJ9 b p) p hne
       exact ⟨w1, w2.trans hg2⟩
      ·rw [← hl, hst, if_neg h4]
  ·have := fin (by omega)
   subst this
   simp -dsimp (disch := first | assumption | omega) only [↓AyE, AyB, AyG, AyF, eq_self, Nat.reduceEqDiff, ↓reduceIte, ↓AyQ]
   exact h _ _ _
section
omit [AyP]
theorem A2u {b : List UInt8} {i : Nat} (hi : i < b.length) : i + (Azj b i).1 ≤ b.length ∧ (Azj b i).1 ≤ 258 ∧ (Azj b i).2 ≤ 32768 := by
 unfold Azj
 split
 ·rename_i h; exact AUf hi h ⟨by simp; omega, by simp, by simp⟩
 ·exact ⟨by simp; omega, by simp, by simp⟩
end
theorem A82 : AQ9 Tryd.prog 57 = true := by kernel_rfl
abbrev tkE (v n i : Nat) : Env := [(1, .op 0 0 []), (3, .os 2 5 v [] 0 n n), (4, .op 2 0 []), (5, .op 4 0 []), (6, tkF), (7, i64 (i : Int))]
/-- The token is laid, and the places are kept. -/
theorem AVo {b : List UInt8} {i : Nat} {es : List (List UInt8 × TV)} {ah : List Nat} {v : Nat} {l : List (Nat × Nat)} {R0 : List Ob} {M : Nat} {Q : VEx → Env → List Ob → Prop} (hb : b.length ≤ 1000000) (hM : i + M ≤ b.length) (hk : AX3 b i es ah)
  (h : ∀ y z w es' ah' R', AX3 b (i + M) es' ah' → Q .nor (tkE v l.length (i + M) ++ [(98, y), (99, z), (100, w)]) (tkH b es' ah' v l ++ R')) :
  vwp Tryd.prog (.loop [1, 3, 4, 5, 6, 7, 98, 99] ABA) (Blk 6 Q) (tkE v l.length i ++ [(98, i64 (M : Int)), (99, i64 ((0 : Nat) : Int))]) (tkH b es ah v l ++ R0) := by
 refine Azr (fun q e H => ∃ r es ah R, q = M - r ∧ r ≤ M ∧ R0.length ≤ R.length ∧ AX3 b (i + r) es ah ∧ e = tkE v l.length (i + r) ++ [(98, i64 (M : Int)), (99, i64 (r : Int))] ∧ H = tkH b es ah v l ++ R) M ?_ ?_
 ·exact ⟨0, es, ah, R0, rfl, by omega, Nat.le_refl _, hk, rfl, rfl⟩
 ·rintro q e H ⟨r, es, ah, R, hq, hr, hR, hk, rfl, rfl⟩
  by_cases h1 : r < M
  ·simp -dsimp (disch := first | assumption | omega) only [↓AyE, AyB, AyG, AyF, eq_self, Nat.reduceEqDiff, ↓reduceIte, ↓AyQ, A82]
   refine (Bbo (H := tkH b es ah v l ++ R) (b := b) (i := i + r) (es := es) (ah := ah) (by omega) hb rfl rfl rfl rfl rfl hk.len hk.cnt).mono fun x H' hx => ?_
   by_cases hf : i + r + 3 ≤ b.length
   ·simp only [if_pos hf] at hx
    obtain ⟨o, rfl⟩ := hx
    simp -dsimp (disch := first | assumption | omega) only [↓AyE, AyB, AyG, AyF, eq_self, Nat.reduceEqDiff, ↓reduceIte]
    exact AyL (M - (r + 1)) (by omega) (by simp; omega) ⟨r + 1, _, _, R ++ [o], rfl, by omega, by simp; omega, hk.next hf, rfl, rfl⟩
   ·simp only [if_neg hf] at hx
    subst hx
    simp -dsimp (disch := first | assumption | omega) only [↓AyE, AyB, AyG, AyF, eq_self, Nat.reduceEqDiff, ↓reduceIte]
    exact AyL (M - (r + 1)) (by omega) (by simp; omega) ⟨r + 1, _, _, R, rfl, by omega, hR, hk.skip hf, rfl, rfl⟩
  ·have hrM : r = M := by omega
   subst hrM
   simp -dsimp (disch := first | assumption | omega) only [↓AyE, AyB, AyG, AyF, eq_self, Nat.reduceEqDiff, ↓reduceIte, ↓AyQ]
   exact h _ _ _ _ _ _ hk
theorem A5K (b : List UInt8) (hb : b.length ≤ 1000000) : ABM Tryd.prog 42 [slB b] (fun x => x = .sl 2 ((APc b (b.length + 1) 0).map tkT)) := by
 generalize hT : APc b (b.length + 1) 0 = T
 refine AyW.toPureV (APK (by simp) ?_)
 simp -dsimp (disch := first | assumption | omega) only [↓AyE, AyB, AyG, AyF, eq_self, Nat.reduceEqDiff, ↓reduceIte, Nat.reduceAdd, ↓AyQ]
 refine Azr (fun q e H => ∃ (i f v : Nat) (l : List (Nat × Nat)) (es : List (List UInt8 × TV)) (ah : List Nat), q = b.length - i ∧ i ≤ b.length ∧ b.length < f + i ∧ T = l ++ APc b f i ∧ l.length ≤ i ∧ AX3 b i es ah ∧ e = tkE v l.length i ∧ H = tkH b es ah v l) b.length ?_ ?_
 ·refine ⟨0, b.length + 1, 0, [], [], List.replicate b.length 0, by omega, by omega, by omega, hT.symm, by simp, ⟨fun y => rfl, fun g => rfl, by simp, fun q hq => by omega⟩, rfl, ?_⟩
  simp [AXY, List.map_replicate]
 ·rintro q e H ⟨i, f, v, l, es, ah, hq, hi, hf, hl, hll, hk, rfl, rfl⟩
  by_cases h1 : i < b.length
  ·obtain ⟨g1, g2, g3⟩ := A2u h1
   obtain ⟨f, rfl⟩ : ∃ f', f = f' + 1 := ⟨f - 1, by omega⟩
   rw [APc, if_pos h1] at hl
   have happ : ∀ t : Nat × Nat, l.map tkT ++ [tkT t] = (l ++ [t]).map tkT := fun t => by simp
   have hlen : l.length + 1 = (l ++ [Azj b i]).length := by simp
   by_cases h2 : i + 3 ≤ b.length
   ·have hcp : (ANG (List.take 3 (List.drop i b)) es).getD (i64 ((0 : Nat) : Int)) = i64 ((ADa b (AJ9 b i) i : Nat) : Int) := hk.cnt (AJ9 b i)
    have hgl : (List.take 3 (List.drop i b)).length = 3 := AWx h2
    simp -dsimp (disch := first | assumption | omega) only [↓AyE, AyB, AyG, AyF, eq_self, Nat.reduceLT, Nat.reduceEqDiff, ↓reduceIte, Nat.reduceAdd, ↓AyQ, hcp]
    refine A5H hb h2 hk fun y z w => ?_
    by_cases hm : (Azj b i).1 < 1
    ·have hmx : max (Azj b i).1 1 = 1 := by omega
     rw [hmx] at hl
     simp -dsimp (disch := first | assumption | omega) only [↓AyE, AyB, AyG, AyF, eq_self, Nat.reduceEqDiff, ↓reduceIte, Nat.reduceAdd, Nat.reduceLeDiff, ↓AyQ, AGf]
     rw [happ (Azj b i), hlen]
     refine AVo (l := l ++ [Azj b i]) (v := v + 1) (M := 1) (es := es) (ah := ah) hb (by omega) hk fun y z w es' ah' R' hk' => ?_
     simp -dsimp (disch := first | assumption | omega) only [↓AyE, AyF]
     refine AS3 (b.length - (i + 1)) 6 (by omega) (by simp) rfl (by simp [AJ8, AQK, ABP, hk'.bel _]) ⟨i + 1, f, v + 1, l ++ [Azj b i], es', ah', rfl, by omega, by omega, by rw [hl, List.append_assoc]; rfl, by rw [← hlen]; omega, hk', by rw [hlen]; rfl, by rw [hlen]; rfl⟩
    ·have hmx : max (Azj b i).1 1 = (Azj b i).1 := by omega
     rw [hmx] at hl
     simp -dsimp (disch := first | assumption | omega) only [↓AyE, AyB, AyG, AyF, eq_self, Nat.reduceEqDiff, ↓reduceIte, Nat.reduceAdd, Nat.reduceLeDiff, ↓AyQ, AGf]
     rw [happ (Azj b i), hlen]
     refine AVo (l := l ++ [Azj b i]) (v := v + 1) (M := (Azj b i).1) (es := es) (ah := ah) hb (by omega) hk fun y z w es' ah' R' hk' => ?_
     simp -dsimp (disch := first | assumption | omega) only [↓AyE, AyF]
     refine AS3 (b.length - (i + (Azj b i).1)) 6 (by omega) (by simp) rfl (by simp [AJ8, AQK, ABP, hk'.bel _]) ⟨i + (Azj b i).1, f, v + 1, l ++ [Azj b i], es', ah', rfl, by omega, by omega, by rw [hl, List.append_assoc]; rfl, by rw [← hlen]; omega, hk', by rw [hlen]; rfl, by rw [hlen]; rfl⟩
   ·have hf3 : Azj b i = (0, 0) := by rw [Azj, if_neg h2]
    have hmx : max (Azj b i).1 1 = 1 := by rw [hf3]; rfl
    rw [hmx, hf3] at hl
    rw [hf3] at hlen
    simp -dsimp (disch := first | assumption | omega) only [↓AyE, AyB, AyG, AyF, eq_self, Nat.reduceLT, Nat.reduceEqDiff, ↓reduceIte, Nat.reduceAdd, Nat.reduceLeDiff, ↓AyQ, AGf]
    rw [happ (0, 0), hlen]
    refine AVo (l := l ++ [(0, 0)]) (v := v + 1) (M := 1) (es := es) (ah := ah) hb (by omega) hk fun y z w es' ah' R' hk' => ?_
    simp -dsimp (disch := first | assumption | omega) only [↓AyE, AyF]
    refine AS3 (b.length - (i + 1)) 6 (by omega) (by simp) rfl (by simp [AJ8, AQK, ABP, hk'.bel _]) ⟨i + 1, f, v + 1, l ++ [(0, 0)], es', ah', rfl, by omega, by omega, by rw [hl, List.append_assoc]; rfl, by rw [← hlen]; omega, hk', by rw [hlen]; rfl, by rw [hlen]; rfl⟩
  ·obtain ⟨f, rfl⟩ : ∃ f', f = f' + 1 := ⟨f - 1, by omega⟩
   rw [APc, if_neg h1, List.append_nil] at hl
   simp -dsimp (disch := first | assumption | omega) only [↓AyE, AyB, AyG, AyF, eq_self, Nat.reduceEqDiff, ↓reduceIte, ↓AyQ]
   rw [hl]
end Go.Proofs.YtfgljddikcghhaaDoor


namespace Go.Proofs.YtfgljddikcghhaaDoor
open Go.RowKit
variable [AyP]
set_option linter.unusedSectionVars false
set_option linter.unusedVariables false

section
omit [AyP]
/-- What code keeps in mind: bits, the next one, how many are used, the longest, the space taken. -/
structure CSt where
 bs : List Nat
 nx : Nat
 us : Nat
 lg : Nat
 sp : Nat
/-- One symbol, at the length n. -/
def CSt.one (ls : List Nat) (n i : Nat) (s : CSt) : CSt := if ls[i]? = some n then ⟨s.bs.set i s.nx, s.nx + 1, s.us + 1, n, s.sp + 2 ^ (15 - n)⟩ else s
/-- The first i symbols, at the length n. -/
def CSt.row (ls : List Nat) (n : Nat) : Nat → CSt → CSt
 | 0, s => s
 | i + 1, s => CSt.one ls n i (CSt.row ls n i s)
/-- The lengths up to n. -/
def CSt.all (ls : List Nat) : Nat → CSt
 | 0 => ⟨List.replicate ls.length 0, 0, 0, 0, 0⟩
 | n + 1 => CSt.row ls (n + 1) ls.length { CSt.all ls n with nx := (CSt.all ls n).nx * 2 }
theorem CSt.one_len (ls : List Nat) (n i : Nat) (s : CSt) : (s.one ls n i).bs.length = s.bs.length := by unfold CSt.one; split <;> simp
theorem CSt.row_len (ls : List Nat) (n : Nat) : ∀ (i : Nat) (s : CSt), (s.row ls n i).bs.length = s.bs.length
 | 0, s => rfl
 | i + 1, s => by rw [CSt.row, CSt.one_len, CSt.row_len ls n i s]
theorem CSt.all_len (ls : List Nat) : ∀ n, (CSt.all ls n).bs.length = ls.length
 | 0 => by simp [CSt.all]
 | n + 1 => by rw [CSt.all, CSt.row_len]; exact CSt.all_len ls n
/-- How great they may be. -/
def CSt.ok (s : CSt) (a b c : Nat) : Prop := s.nx ≤ a ∧ s.us ≤ b ∧ s.sp ≤ c
set_option maxRecDepth 100000 in
theorem CSt.row_ok (ls : List Nat) (n : Nat) : ∀ (i : Nat) (s : CSt) (a b c : Nat), s.ok a b c → (s.row ls n i).ok (a + i) (b + i) (c + i * 32768)
 | 0, s, a, b, c, h => by simpa [CSt.row] using h
 | i + 1, s, a, b, c, h => by
  obtain ⟨h1, h2, h3⟩ := CSt.row_ok ls n i s a b c h
  have hp : 2 ^ (15 - n) ≤ 32768 := Nat.le_trans (Nat.pow_le_pow_right (by omega) (by omega : 15 - n ≤ 15)) (by decide)
  rw [CSt.row]
  unfold CSt.one
  generalize CSt.row ls n i s = t at *
  split
  ·refine ⟨?_, ?_, ?_⟩
   ·show t.nx + 1 ≤ _; omega
   ·show t.us + 1 ≤ _; omega
   ·show t.sp + 2 ^ (15 - n) ≤ _; omega
  ·exact ⟨by omega, by omega, by omega⟩
set_option maxRecDepth 100000 in
theorem CSt.all_ok (ls : List Nat) (hl : ls.length ≤ 1000) : ∀ n, (CSt.all ls n).ok (1000 * (2 ^ n - 1)) (1000 * n) (32768000 * n)
 | 0 => ⟨by simp [CSt.all], by simp [CSt.all], by simp [CSt.all]⟩
 | n + 1 => by
  obtain ⟨h1, h2, h3⟩ := CSt.all_ok ls hl n
  have hp : 1 ≤ 2 ^ n := Nat.one_le_two_pow
  have h := CSt.row_ok ls (n + 1) ls.length { CSt.all ls n with nx := (CSt.all ls n).nx * 2 } (2000 * (2 ^ n - 1)) (1000 * n) (32768000 * n) ⟨by show _ * 2 ≤ _; omega, h2, h3⟩
  obtain ⟨k1, k2, k3⟩ := h
  rw [CSt.all]
  refine ⟨Nat.le_trans k1 ?_, Nat.le_trans k2 (by omega), Nat.le_trans k3 (by omega)⟩
  rw [Nat.pow_succ]; omega
end
end Go.Proofs.YtfgljddikcghhaaDoor


namespace Go.Proofs.YtfgljddikcghhaaDoor
open Go.RowKit
variable [AyP]
set_option linter.unusedSectionVars false
set_option linter.unusedVariables false
set_option linter.unusedSimpArgs false

def okC (ls : List Nat) (few non : Bool) : Bool := decide ((CSt.all ls 15).sp = 32768) || (few && decide ((CSt.all ls 15).us = 1) && decide ((CSt.all ls 15).lg = 1) || non && decide ((CSt.all ls 15).us = 0))
abbrev nsO (v : Nat) (l : List Nat) : Ob := .obj v (.arr l.length 1 (l.map fun (n : Nat) => i64 (n : Int)))
end Go.Proofs.YtfgljddikcghhaaDoor


namespace Go.Proofs.YtfgljddikcghhaaDoor
open Go.RowKit
variable [AyP]
set_option linter.unusedSectionVars false
set_option linter.unusedVariables false
set_option linter.unusedSimpArgs false

section
omit [AyP]
/-- The lowest i bits of v, as the highest of n. -/
def ASB (n v : Nat) : Nat → Nat
 | 0 => 0
 | i + 1 => ASB n v i ||| v / 2 ^ i % 2 * 2 ^ (n - 1 - i)
def ARr (ls bs : List Nat) : List Nat := List.zipWith (fun m v => ASB m v m) ls bs
theorem AQW (n : Nat) : ∀ i, ASB n 0 i = 0
 | 0 => rfl
 | i + 1 => by rw [ASB, AQW n i]; simp
theorem ASy (n v : Nat) : ∀ i, i ≤ n → ASB n v i < 2 ^ n
 | 0, _ => by rw [ASB]; exact Nat.two_pow_pos n
 | i + 1, h => by
  rw [ASB]
  refine Nat.or_lt_two_pow (ASy n v i (by omega)) ?_
  refine Nat.lt_of_le_of_lt (Nat.mul_le_mul_right _ (by omega : v / 2 ^ i % 2 ≤ 1)) ?_
  rw [Nat.one_mul]; exact Nat.pow_lt_pow_right (by omega) (by omega)
theorem AVZ (n v : Nat) : ∀ i j, i ≤ n → (ASB n v i).testBit j = (decide (n - i ≤ j ∧ j < n) && v.testBit (n - 1 - j))
 | 0, j, h => by
  rw [ASB, Nat.zero_testBit]
  have : ¬ (n - 0 ≤ j ∧ j < n) := by omega
  rw [decide_eq_false this, Bool.false_and]
 | i + 1, j, h => by
  rw [ASB, Nat.testBit_or, AVZ n v i j (by omega), Nat.testBit_mul_two_pow]
  by_cases e : j = n - 1 - i
  ·subst e
   have h1 : ¬ (n - i ≤ n - 1 - i ∧ n - 1 - i < n) := by omega
   have h2 : n - (i + 1) ≤ n - 1 - i ∧ n - 1 - i < n := by omega
   have h3 : n - 1 - (n - 1 - i) = i := by omega
   rw [decide_eq_false h1, decide_eq_true h2, h3, Bool.false_and, Bool.false_or, Bool.true_and, Nat.sub_self]
   simp only [Nat.le_refl, decide_true, Bool.true_and]
   rw [Nat.testBit_zero, Nat.mod_mod, Nat.testBit_eq_decide_div_mod_eq]
  ·have h1 : decide (n - i ≤ j ∧ j < n) = decide (n - (i + 1) ≤ j ∧ j < n) := by
    congr 1; apply propext; omega
   rw [h1]
   have h4 : (decide (n - 1 - i ≤ j) && (v / 2 ^ i % 2).testBit (j - (n - 1 - i))) = false := by
    by_cases h5 : n - 1 - i ≤ j
    ·rw [Nat.testBit_lt_two_pow (Nat.lt_of_lt_of_le (Nat.mod_lt _ (by omega)) (by
      have := Nat.pow_le_pow_right (n := 2) (i := 1) (j := j - (n - 1 - i)) (by omega) (by omega); omega)), Bool.and_false]
    ·rw [decide_eq_false h5, Bool.false_and]
   rw [h4, Bool.or_false]
/-- The bits, turned about. -/
theorem A0i (n v : Nat) : AyR n (ASB n v n) = (AyR n v).reverse := by
 apply List.ext_getElem?
 intro j
 by_cases hj : j < n
 ·rw [AS0 n _ j hj, List.getElem?_reverse (by rw [AyU]; exact hj), AyU, AS0 n v (n - 1 - j) (by omega)]
  have h1 := AVZ n v n j (Nat.le_refl n)
  rw [decide_eq_true (by omega : n - n ≤ j ∧ j < n), Bool.true_and, Nat.testBit_eq_decide_div_mod_eq, Nat.testBit_eq_decide_div_mod_eq] at h1
  congr 1
 ·rw [List.getElem?_eq_none (by rw [AyU]; omega), List.getElem?_eq_none (by rw [List.length_reverse, AyU]; omega)]
theorem AWF {ls bs : List Nat} (h : bs.length = ls.length) : (ARr ls bs).length = ls.length := by simp [ARr, h]
theorem ATe {ls bs : List Nat} {i m v : Nat} (h1 : ls[i]? = some m) (h2 : bs[i]? = some v) : (ARr ls bs)[i]? = some (ASB m v m) := by
 simp [ARr, List.getElem?_zipWith, h1, h2]
theorem A17 {ls bs : List Nat} {i m v : Nat} (h1 : ls[i]? = some m) : (ARr ls bs).set i (ASB m v m) = ARr ls (bs.set i v) := by
 apply List.ext_getElem?
 intro j
 by_cases e : i = j
 ·subst e
  simp only [ARr, List.getElem?_set_self', List.getElem?_zipWith, h1]
  cases bs[i]? <;> simp
 ·simp [ARr, List.getElem?_set_ne e, List.getElem?_zipWith]
theorem AYN {ls : List Nat} : ARr ls (List.replicate ls.length 0) = List.replicate ls.length 0 := by
 apply List.ext_getElem?
 intro j
 simp only [ARr, List.getElem?_zipWith, List.getElem?_replicate]
 by_cases h : j < ls.length
 ·simp [h, AQW]
 ·simp [h]
/-- What has no bits yet. -/
theorem CSt.row_zero {ls : List Nat} {n j m : Nat} (hj : ls[j]? = some m) : ∀ (i : Nat) (s : CSt), s.bs[j]? = some 0 → (m ≠ n ∨ i ≤ j) → (CSt.row ls n i s).bs[j]? = some 0
 | 0, s, h, _ => h
 | i + 1, s, h, hc => by
  rw [CSt.row, CSt.one]
  have ih := CSt.row_zero hj i s h (by rcases hc with h | h; exact .inl h; exact .inr (by omega))
  split
  ·rename_i hi
   have hne : i ≠ j := by
    rintro rfl
    rw [hj] at hi
    rcases hc with h | h
    ·exact h (Option.some.inj hi)
    ·omega
   show ((CSt.row ls n i s).bs.set i _)[j]? = some 0
   rw [List.getElem?_set_ne hne]; exact ih
  ·exact ih
theorem CSt.all_zero {ls : List Nat} {j m : Nat} (hj : ls[j]? = some m) : ∀ n, n < m → (CSt.all ls n).bs[j]? = some 0
 | 0, _ => by
  have : j < ls.length := (List.getElem?_eq_some_iff.1 hj).1
  simp [CSt.all, this]
 | n + 1, h => by
  rw [CSt.all]
  exact CSt.row_zero hj _ _ (CSt.all_zero hj n (by omega)) (.inl (by omega))
end
theorem A4b (ls : List Nat) (hl : ls.length ≤ 1000) : ABM Tryd.prog 40 [AKD ls] (fun x => x = AKD (ARr ls (CSt.all ls 15).bs)) := by
 refine AyW.toPureV (AQk (by simp) ?_)
 simp -dsimp (disch := first | assumption | omega) only [↓AyE, AyB, AyG, AyF, eq_self, Nat.reduceEqDiff, ↓reduceIte, reduceCtorEq, ↓Azy]
 refine Azr (fun q e H => ∃ n, q = 15 - n ∧ n ≤ 15 ∧ e = [(0, AKD ls), (3, .os 1 0 0 [] 0 ls.length ls.length), (4, i64 ((CSt.all ls n).nx : Int)), (5, i64 ((n + 1 : Nat) : Int))] ∧
  H = [.obj 0 (.arr ls.length 1 (AXY (ARr ls (CSt.all ls n).bs)))]) 15 ?_ ?_
 ·exact ⟨0, rfl, by omega, rfl, by rw [CSt.all, AYN]; simp [AXY]⟩
 ·rintro q e H ⟨n, hq, hn, rfl, rfl⟩
  obtain ⟨o1, o2, o3⟩ := CSt.all_ok ls hl n
  have hp : 2 ^ n ≤ 32768 := Nat.le_trans (Nat.pow_le_pow_right (by omega) hn) (by decide)
  by_cases hn15 : n < 15
  ·simp -dsimp (disch := first | assumption | omega) only [↓AyE, AyB, AyG, AyF, eq_self, Nat.reduceEqDiff, Nat.reducePow, ↓reduceIte, reduceCtorEq, ↓Azy]
   obtain ⟨s, hs⟩ : ∃ s : CSt, s = { CSt.all ls n with nx := (CSt.all ls n).nx * 2 } := ⟨_, rfl⟩
   have hs0 : s.ok (2000 * (2 ^ n - 1)) (1000 * n) (32768000 * n) := by subst hs; exact ⟨by show _ * 2 ≤ _; omega, o2, o3⟩
   have hall : CSt.all ls (n + 1) = CSt.row ls (n + 1) ls.length s := by subst hs; rfl
   have hsl : s.bs.length = ls.length := by subst hs; exact CSt.all_len ls n
   refine Azr (fun q e H => ∃ i, q = ls.length - i ∧ i ≤ ls.length ∧ e = [(0, AKD ls), (3, .os 1 0 0 [] 0 ls.length ls.length), (4, i64 ((CSt.row ls (n + 1) i s).nx : Int)), (5, i64 ((n + 1 : Nat) : Int)), (18, AKD ls), (19, i64 (ls.length : Int)), (20, i64 (i : Int))] ∧
    H = [.obj 0 (.arr ls.length 1 (AXY (ARr ls (CSt.row ls (n + 1) i s).bs)))]) ls.length ?_ ?_
   ·exact ⟨0, rfl, by omega, by subst hs; rfl, by subst hs; rfl⟩
   ·rintro q e H ⟨i, hq, hi, rfl, rfl⟩
    obtain ⟨b1, b2, b3⟩ := CSt.row_ok ls (n + 1) i s _ _ _ hs0
    have hrl : (CSt.row ls (n + 1) i s).bs.length = ls.length := by rw [CSt.row_len, hsl]
    by_cases hlt : i < ls.length
    ·obtain ⟨a, ha⟩ : ∃ a, ls[i]? = some a := ⟨_, List.getElem?_eq_getElem hlt⟩
     by_cases hc : a = n + 1
     ·subst hc
      have hst : CSt.row ls (n + 1) (i + 1) s = ⟨(CSt.row ls (n + 1) i s).bs.set i (CSt.row ls (n + 1) i s).nx, (CSt.row ls (n + 1) i s).nx + 1, (CSt.row ls (n + 1) i s).us + 1, n + 1, (CSt.row ls (n + 1) i s).sp + 2 ^ (15 - (n + 1))⟩ := by rw [CSt.row, CSt.one, if_pos ha]
      have hz : (CSt.row ls (n + 1) i s).bs[i]? = some 0 := CSt.row_zero ha i s (by subst hs; exact CSt.all_zero ha n (by omega)) (.inr (Nat.le_refl _))
      obtain ⟨c, hcd⟩ : ∃ c, c = (CSt.row ls (n + 1) i s).nx := ⟨_, rfl⟩
      obtain ⟨L, hL⟩ : ∃ L, L = ARr ls (CSt.row ls (n + 1) i s).bs := ⟨_, rfl⟩
      have hLl : L.length = ls.length := by rw [hL, AWF hrl]
      have hLi : L[i]? = some 0 := by rw [hL, ATe ha hz, AQW]
      rw [← hcd] at hst b1
      rw [← hcd, ← hL]
      have hset : L.set i (ASB (n + 1) c (n + 1)) = ARr ls (CSt.row ls (n + 1) (i + 1) s).bs := by rw [hL, A17 ha, hst]
      simp -dsimp (disch := first | assumption | omega) only [↓AyE, AyB, AyG, AyF, eq_self, Nat.reduceEqDiff, ↓reduceIte, reduceCtorEq, ↓Azy, ha]
      refine Azr (fun q e H => ∃ k, q = n + 1 - k ∧ k ≤ n + 1 ∧ e = [(0, AKD ls), (3, .os 1 0 0 [] 0 ls.length ls.length), (4, i64 (c : Int)), (5, i64 ((n + 1 : Nat) : Int)), (6, i64 (i : Int)), (18, AKD ls), (19, i64 (ls.length : Int)), (20, i64 (i : Int)), (28, i64 ((n + 1 : Nat) : Int)), (29, i64 (k : Int))] ∧
       H = [.obj 0 (.arr ls.length 1 (AXY (L.set i (ASB (n + 1) c k))))]) (n + 1) ?_ ?_
      ·exact ⟨0, rfl, by omega, rfl, by rw [ASB, ASL hLi]⟩
      ·rintro q e H ⟨k, hq, hk, rfl, rfl⟩
       have hb := ASy (n + 1) c k hk
       have hb2 : 2 ^ (n + 1) ≤ 32768 := Nat.le_trans (Nat.pow_le_pow_right (by omega) (by omega : n + 1 ≤ 15)) (by decide)
       by_cases hkn : k < n + 1
       ·have hLk : (L.set i (ASB (n + 1) c k))[i]? = some (ASB (n + 1) c k) := by rw [List.getElem?_set_self (by omega)]
        have hpk : c / 2 ^ k % 2 * 2 ^ (n - k) ≤ 1 * 2 ^ 15 := Nat.mul_le_mul (by omega) (Nat.pow_le_pow_right (by omega) (by omega))
        have hck : c / 2 ^ k ≤ c := Nat.div_le_self _ _
        simp -dsimp (disch := first | assumption | omega) only [↓AyE, AyB, AyG, AyF, eq_self, Nat.reduceEqDiff, ↓reduceIte, reduceCtorEq, ↓Azy, hLk, A72]
        refine AyL (n + 1 - (k + 1)) (by omega) (by simp) ⟨k + 1, rfl, by omega, rfl, ?_⟩
        rw [AV6, List.set_set, ASB, Nat.add_sub_cancel]
       ·have hkn' : k = n + 1 := by omega
        subst hkn'
        simp -dsimp (disch := first | assumption | omega) only [↓AyE, AyB, AyG, AyF, eq_self, Nat.reduceEqDiff, ↓reduceIte, reduceCtorEq, ↓Azy]
        rw [hset]
        exact AyL (ls.length - (i + 1)) (by omega) (by simp) ⟨i + 1, rfl, by omega, by rw [hst]; rfl, rfl⟩
     ·have hst : CSt.row ls (n + 1) (i + 1) s = CSt.row ls (n + 1) i s := by rw [CSt.row, CSt.one, if_neg (by rw [ha]; simpa using hc)]
      simp -dsimp (disch := first | assumption | omega) only [↓AyE, AyB, AyG, AyF, eq_self, Nat.reduceEqDiff, ↓reduceIte, reduceCtorEq, ↓Azy, ha]
      exact AyL (ls.length - (i + 1)) (by omega) (by simp) ⟨i + 1, rfl, by omega, by rw [hst]; rfl, by rw [hst]⟩
    ·have hie : i = ls.length := by omega
     subst hie
     simp -dsimp (disch := first | assumption | omega) only [↓AyE, AyB, AyG, AyF, eq_self, Nat.reduceEqDiff, ↓reduceIte, reduceCtorEq, ↓Azy]
     exact AyL (15 - (n + 1)) (by omega) (by simp) ⟨n + 1, rfl, by omega, by rw [hall]; rfl, by rw [hall]⟩
  ·have hne : n = 15 := by omega
   subst hne
   have h15 : (ARr ls (CSt.all ls 15).bs).length = ls.length := AWF (CSt.all_len ls 15)
   have htk : (ARr ls (CSt.all ls 15).bs).take ls.length = ARr ls (CSt.all ls 15).bs := List.take_of_length_le (by omega)
   simp -dsimp (disch := first | assumption | omega) only [↓AyE, AyB, AyG, AyF, eq_self, Nat.reduceLT, Nat.reduceEqDiff, ↓reduceIte, Nat.reduceAdd, reduceCtorEq, ↓Azy]
section
omit [AyP]
/-- The symbol of a number: the last one that begins no later. -/
def AII (sp : Nat → Nat × Nat) (n frm : Nat) : Nat → Nat
 | 0 => frm
 | j + 1 => if (sp (frm + j)).1 ≤ n then frm + j else AII sp n frm j
theorem AQz {sp : Nat → Nat × Nat} {n frm : Nat} : ∀ {j : Nat}, 0 < j → frm ≤ AII sp n frm j ∧ AII sp n frm j < frm + j
 | 1, _ => by simp only [AII]; split <;> omega
 | j + 2, _ => by
  rw [AII]; split
  ·omega
  ·have := AQz (sp := sp) (n := n) (frm := frm) (j := j + 1) (by omega); omega
end
theorem AUu (g : FuncId) (hg : AQ9 Tryd.prog g = true) (sp : Nat → Nat × Nat) (n frm m : Nat) (hn : n ≤ 100000) (hf : frm ≤ 1000) (hm : 0 < m) (hm2 : m ≤ 100) (hs : ∀ i, frm ≤ i → i < frm + m → ABM Tryd.prog g [i64 (i : Int)] (fun x => x = spn (sp i)) ∧ (sp i).1 ≤ 100000) :
  ABM Tryd.prog 43 [i64 (n : Int), i64 (frm : Int), i64 ((frm + m - 1 : Nat) : Int), .val (.func (.func g) #[] #[])] (fun x => x = .tup [i64 ((AII sp n frm m : Nat) : Int), spn (sp (AII sp n frm m))]) := by
 refine AyW.toPureV (AOc (by simp) ?_)
 simp -dsimp (disch := first | assumption | omega) only [↓AyE, AyB, AyG, AyF, eq_self, Nat.reduceEqDiff, ↓reduceIte, Nat.reduceAdd, reduceCtorEq, ↓AAz]
 refine Azr (fun q e H => ∃ j, q = m - j ∧ j ≤ m ∧ e = [(0, i64 (n : Int)), (2, i64 ((frm + m - 1 : Nat) : Int)), (3, .val (.func (.func g) #[] #[])), (9, .op 0 0 []), (10, i64 ((AII sp n frm j : Nat) : Int)), (11, i64 ((frm + j : Nat) : Int))] ∧ H = [.obj 0 (spn (0, 0))]) m ?_ ?_
 ·exact ⟨0, rfl, by omega, rfl, rfl⟩
 ·rintro q e H ⟨j, hq, hj, rfl, rfl⟩
  by_cases h1 : j < m
  ·obtain ⟨hs1, hs2⟩ := hs (frm + j) (by omega) (by omega)
   simp -dsimp (disch := first | assumption | omega) only [↓AyE, AyB, AyG, AyF, eq_self, Nat.reduceEqDiff, ↓reduceIte, reduceCtorEq, ↓AAz, hg]
   refine hs1.calls rfl ?_
   rintro _ rfl
   by_cases h2 : (sp (frm + j)).1 ≤ n
   ·simp -dsimp (disch := first | assumption | omega) only [↓AyE, AyB, AyG, AyF, eq_self, Nat.reduceEqDiff, ↓reduceIte, reduceCtorEq]
    exact AyL (m - (j + 1)) (by omega) (by simp) ⟨j + 1, rfl, by omega, by rw [AII, if_pos h2]; rfl, rfl⟩
   ·simp -dsimp (disch := first | assumption | omega) only [↓AyE, AyB, AyG, AyF, eq_self, Nat.reduceEqDiff, ↓reduceIte, reduceCtorEq]
    exact AyL (m - (j + 1)) (by omega) (by simp) ⟨j + 1, rfl, by omega, by rw [AII, if_neg h2]; rfl, rfl⟩
  ·have hjm : j = m := by omega
   subst hjm
   obtain ⟨g1, g2⟩ := AQz (sp := sp) (n := n) (frm := frm) hm
   simp -dsimp (disch := first | assumption | omega) only [↓AyE, AyB, AyG, AyF, eq_self, Nat.reduceEqDiff, ↓reduceIte, reduceCtorEq, ↓AAz, hg]
   refine (hs _ g1 g2).1.calls rfl ?_
   rintro _ rfl
   simp -dsimp (disch := first | assumption | omega) only [↓AyE, AyB, AyG, AyF, eq_self, Nat.reduceEqDiff, ↓reduceIte, Nat.reduceAdd, reduceCtorEq, ↓AAz]
end Go.Proofs.YtfgljddikcghhaaDoor


namespace Go.Proofs.YtfgljddikcghhaaDoor
open Go.RowKit
variable [AyP]
set_option linter.unusedSectionVars false
set_option linter.unusedVariables false
set_option linter.unusedSimpArgs false

section
omit [AyP]
/-- What stands ahead of a block's bytes. -/
def hdr (last : Bool) (n : Nat) : List UInt8 := [if last then 1 else 0, UInt8.ofNat n, UInt8.ofNat (n / 256), UInt8.ofNat (255 - n % 256), UInt8.ofNat (255 - n / 256 % 256)]
/-- The blocks. -/
def ADH : Nat → Bool → List UInt8 → List UInt8
 | 0, _, _ => []
 | f + 1, first, b => if first = true ∨ 0 < b.length then hdr (decide (b.length ≤ 65535)) (min b.length 65535) ++ b.take (min b.length 65535) ++ ADH f false (b.drop (min b.length 65535)) else []
theorem A6j (w n : Nat) : (BitVec.ofInt w (-1) ^^^ BitVec.ofInt w (n : Int)).toNat = 2 ^ w - 1 - n % 2 ^ w := by
 have e1 : (BitVec.ofInt w (-1)) = BitVec.allOnes w := by
  apply BitVec.eq_of_toNat_eq
  rw [BitVec.toNat_ofInt, BitVec.toNat_allOnes]
  have hp : 1 ≤ 2 ^ w := Nat.one_le_two_pow
  have h1 : (-1 : Int) % ((2 ^ w : Nat) : Int) = ((2 ^ w - 1 : Nat) : Int) := by
   have : (-1 : Int) = ((2 ^ w - 1 : Nat) : Int) + ((2 ^ w : Nat) : Int) * (-1) := by omega
   rw [this, Int.add_mul_emod_self_left, Int.emod_eq_of_lt (by omega) (by omega)]
  rw [h1]; rfl
 rw [e1, BitVec.allOnes_xor, BitVec.toNat_not, BitVec.ofInt_natCast, BitVec.toNat_ofNat]
theorem AVj (k : IntKind) (x y : Int) : Op.intBits .xor k x y = pure (.int k (k.wrap ((BitVec.ofInt k.bits x ^^^ BitVec.ofInt k.bits y).toNat : Int))) := rfl
theorem A0h {n : Nat} (h : n ≤ 9223372036854775807) : unV .xor (.int .i64 (n : Int)) = some (.int .i64 (-(n : Int) - 1)) := by
 have e0 : Op.unary .xor (.int .i64 (n : Int)) = Op.intBits .xor .i64 (-1) (n : Int) := by
  simp [Op.unary, IntKind.signed]
 have hb : IntKind.i64.bits = 64 := rfl
 have key : IntKind.i64.wrap ((2 ^ 64 - 1 - n % 2 ^ 64 : Nat) : Int) = -(n : Int) - 1 := by rw [IntKind.wrap_i64]; omega
 unfold unV
 rw [e0, AVj, A6j, hb, key]; rfl
theorem AYu {t : TypeId} {n : Nat} {k2 : IntKind} : AAw t .shr (.int .i64 (-(n : Int) - 1)) (.int k2 ((8 : Nat) : Int)) = some (.int .i64 ((-(n : Int) - 1) / 256)) := by
 have e : binOp .shr t (.int .i64 (-(n : Int) - 1)) (.int k2 ((8 : Nat) : Int)) = pure (.int .i64 ((-(n : Int) - 1) / 256)) := by
  show Op.shift .shr .i64 (-(n : Int) - 1) k2 ((8 : Nat) : Int) = _
  unfold Op.shift
  rw [if_neg (by omega)]
  show pure (Value.int IntKind.i64 ((-(n : Int) - 1).fdiv (2 ^ 8))) = _
  rw [Int.fdiv_eq_ediv_of_nonneg _ (by decide)]; rfl
 unfold AAw
 rw [e]; rfl
theorem AWf {z a b c d e : TV} : (((((List.replicate 5 z).set 0 a).set 1 b).set 2 c).set 3 d).set 4 e = [a, b, c, d, e] := by simp [List.replicate]
theorem A4m (n : Nat) : IntKind.u8.wrap (-(n : Int) - 1) = ((UInt8.ofNat (255 - n % 256)).toNat : Int) := by
 rw [IntKind.wrap_u8, UInt8.toNat_ofNat']; omega
theorem AZO (n : Nat) : IntKind.u8.wrap ((-(n : Int) - 1) / 256) = ((UInt8.ofNat (255 - n / 256 % 256)).toNat : Int) := by
 rw [IntKind.wrap_u8, UInt8.toNat_ofNat']; omega
end
theorem A2Q {r l : List UInt8} {n v : Nat} {Q : VEx → Env → List Ob → Prop} (hn : n ≤ 65535) (hn2 : n ≤ r.length) (hl : l.length ≤ 10000000) (hr : r.length ≤ 1000000)
  (hQ : ∀ R, Q .nor [(0, slB (r.drop n)), (3, .os 1 0 (v + 2) [] 0 (l ++ (hdr (decide (n = r.length)) n ++ r.take n)).length (l ++ (hdr (decide (n = r.length)) n ++ r.take n)).length)] ([.obj (v + 2) (.arr (l ++ (hdr (decide (n = r.length)) n ++ r.take n)).length 1 ((l ++ (hdr (decide (n = r.length)) n ++ r.take n)).map by8))] ++ R)) :
  vwp Tryd.prog AAe Q [(0, slB r), (3, .os 1 0 v [] 0 l.length l.length), (5, i64 (n : Int))] [.obj v (.arr l.length 1 (l.map by8))] := by
 have hlen : ∀ b, (l ++ (hdr b n ++ r.take n)).length = l.length + 5 + n := by intro b; simp [hdr]; omega
 by_cases hb : n = r.length
 ·rw [decide_eq_true hb, hlen] at hQ
  simp -dsimp (disch := first | assumption | omega | (simp only [AyC]; done) | (simp only [AyC]; omega)) only [↓AyE, AyB, AyG, AyF, eq_self, Nat.reduceEqDiff, Nat.reducePow, ↓reduceIte, Nat.reduceAdd, reduceCtorEq, Nat.reduceLeDiff, ↓ACk, A0h, AYu, A4m, AZO, AWf]
  have e : (List.take (l.length + 5) (List.map by8 l ++ [TV.val (.int .u8 ((1 : Nat) : Int)), by8 (UInt8.ofNat n), by8 (UInt8.ofNat (n / 256)), by8 (UInt8.ofNat (255 - n % 256)), by8 (UInt8.ofNat (255 - n / 256 % 256))]) ++ List.map by8 r) = (l ++ (hdr true n ++ r.take n)).map by8 := by
   rw [List.take_of_length_le (by simp), hb, List.take_length]
   simp only [hdr, if_true, List.map_append, List.map_cons, List.append_assoc, List.cons_append, List.nil_append]; rfl
  have hq := hQ [Ob.obj 0 (TV.arr 5 1 [TV.val (.int .u8 ((1 : Nat) : Int)), by8 (UInt8.ofNat n), by8 (UInt8.ofNat (n / 256)), by8 (UInt8.ofNat (255 - n % 256)), by8 (UInt8.ofNat (255 - n / 256 % 256))])]
  rw [← e, hb] at hq
  rw [hb]; exact hq
 ·rw [decide_eq_false hb, hlen] at hQ
  simp -dsimp (disch := first | assumption | omega | (simp only [AyC]; done) | (simp only [AyC]; omega)) only [↓AyE, AyB, AyG, AyF, eq_self, Nat.reduceEqDiff, Nat.reducePow, ↓reduceIte, Nat.reduceAdd, reduceCtorEq, Nat.reduceLeDiff, ↓ACk, A0h, AYu, A4m, AZO, AWf]
  have e : (List.take (l.length + 5) (List.map by8 l ++ [TV.val (.int .u8 ((0 : Nat) : Int)), by8 (UInt8.ofNat n), by8 (UInt8.ofNat (n / 256)), by8 (UInt8.ofNat (255 - n % 256)), by8 (UInt8.ofNat (255 - n / 256 % 256))]) ++ List.map by8 (r.take n)) = (l ++ (hdr false n ++ r.take n)).map by8 := by
   rw [List.take_of_length_le (by simp)]
   simp only [hdr, List.map_append, List.map_cons, List.append_assoc, List.cons_append, List.nil_append]; rfl
  have hq := hQ [Ob.obj 0 (TV.arr 5 1 [TV.val (.int .u8 ((0 : Nat) : Int)), by8 (UInt8.ofNat n), by8 (UInt8.ofNat (n / 256)), by8 (UInt8.ofNat (255 - n % 256)), by8 (UInt8.ofNat (255 - n / 256 % 256))])]
  rw [← e] at hq
  exact hq
theorem A6o (b : List UInt8) (hb : b.length ≤ 1000000) : ABM Tryd.prog 22 [slB b] (fun x => x = slB (ADH (b.length + 2) true b)) := by
 generalize hT : ADH (b.length + 2) true b = T
 refine AyW.toPureV (APH (by simp) ?_)
 simp -dsimp (disch := first | assumption | omega | (simp only [AyC]; done) | (simp only [AyC]; omega)) only [↓AyE, AyB, AyG, AyF, eq_self, Nat.reduceEqDiff, ↓reduceIte, reduceCtorEq, ↓ACk]
 refine Azr (fun q e H => ∃ (f v : Nat) (l r : List UInt8) (first : Bool), q = r.length + (if first then 1 else 0) ∧ r.length ≤ b.length ∧ r.length + (if first then 1 else 0) < f ∧ l.length + 6 * r.length + (if first then 6 else 0) ≤ 10000000 ∧ l ++ ADH f first r = T ∧ e = [(0, slB r), (3, .os 1 0 v [] 0 l.length l.length), (4, tb first)] ∧ H = [.obj v (.arr l.length 1 (l.map by8))]) (b.length + 1) ?_ ?_
 ·exact ⟨b.length + 2, 0, [], b, true, rfl, Nat.le_refl _, by simp, by simp; omega, hT, rfl, rfl⟩
 ·rintro q e H ⟨f, v, l, r, first, hq, hr, hf, hl, hT, rfl, rfl⟩
  obtain ⟨f, rfl⟩ : ∃ f', f = f' + 1 := ⟨f - 1, by omega⟩
  rw [ADH] at hT
  -- a round
  have round : (first = true ∨ 0 < r.length) → ∀ y, vwp Tryd.prog ACn (Rnd 1 [0, 3, 4] (Blk 0 (Thn Tryd.prog AAf (ASI ACi fun x H' => Azu (ACr H' (AWz H' 2) x) fun x => x = slB T)))
    (fun q e H => ∃ (f v : Nat) (l r : List UInt8) (first : Bool), q = r.length + (if first then 1 else 0) ∧ r.length ≤ b.length ∧ r.length + (if first then 1 else 0) < f ∧ l.length + 6 * r.length + (if first then 6 else 0) ≤ 10000000 ∧ l ++ ADH f first r = T ∧ e = [(0, slB r), (3, .os 1 0 v [] 0 l.length l.length), (4, tb first)] ∧ H = [.obj v (.arr l.length 1 (l.map by8))]) q) [(0, slB r), (3, .os 1 0 v [] 0 l.length l.length), (12, y)] [.obj v (.arr l.length 1 (l.map by8))] := by
   intro hne y
   rw [if_pos hne] at hT
   have hdec : decide (r.length ≤ 65535) = decide (min r.length 65535 = r.length) := by congr 1; apply propext; omega
   rw [hdec] at hT
   have step : ∀ n : Nat, n = min r.length 65535 → vwp Tryd.prog AAe (Blk 1 (Thn Tryd.prog (AyD.ops [po_ 4 (POp.mov (Opd.c (Value.bool false)))] [0, 3, 4]) (Rnd 1 [0, 3, 4] (Blk 0 (Thn Tryd.prog AAf (ASI ACi fun x H' => Azu (ACr H' (AWz H' 2) x) fun x => x = slB T)))
    (fun q e H => ∃ (f v : Nat) (l r : List UInt8) (first : Bool), q = r.length + (if first then 1 else 0) ∧ r.length ≤ b.length ∧ r.length + (if first then 1 else 0) < f ∧ l.length + 6 * r.length + (if first then 6 else 0) ≤ 10000000 ∧ l ++ ADH f first r = T ∧ e = [(0, slB r), (3, .os 1 0 v [] 0 l.length l.length), (4, tb first)] ∧ H = [.obj v (.arr l.length 1 (l.map by8))]) q)))
     [(0, slB r), (3, .os 1 0 v [] 0 l.length l.length), (5, i64 (n : Int))] [.obj v (.arr l.length 1 (l.map by8))] := by
    intro n hn
    have hpos : first = true ∨ 1 ≤ n := hne.imp id fun h => by omega
    rw [← hn] at hT
    have hnl : n ≤ r.length := by omega
    have hlen : ∀ b, (l ++ (hdr b n ++ r.take n)).length = l.length + 5 + n := by intro b; simp [hdr]; omega
    have hdl : (r.drop n).length = r.length - n := by simp
    have hLl := hlen (decide (n = r.length))
    have hLT : (l ++ (hdr (decide (n = r.length)) n ++ r.take n)) ++ ADH f false (r.drop n) = T := by rw [← hT]; simp only [List.append_assoc]
    refine A2Q (by omega) hnl (by omega) (by omega) fun R => ?_
    generalize l ++ (hdr (decide (n = r.length)) n ++ r.take n) = L at *
    simp -dsimp (disch := first | assumption | omega | (simp only [AyC]; done) | (simp only [AyC]; omega)) only [↓AyE, AyB, AyG, AyF, eq_self, Nat.reduceEqDiff, ↓reduceIte, reduceCtorEq]
    refine AS3 (r.length - n) 1 ?_ (by simp) rfl (by simp [AJ8, AQK, ABP]) ⟨f, v + 2, L, r.drop n, false, by rw [hdl]; simp, by omega, ?_, ?_, hLT, rfl, rfl⟩
    ·cases first <;> simp at hq hpos <;> omega
    ·rw [hdl]; cases first <;> simp at hf hpos ⊢ <;> omega
    ·rw [hdl, hLl]; cases first <;> simp at hl hpos ⊢ <;> omega
   by_cases hbig : r.length ≤ 65535
   ·have hmin : min r.length 65535 = r.length := by omega
    simp -dsimp (disch := first | assumption | omega | (simp only [AyC]; done) | (simp only [AyC]; omega)) only [↓AyE, AyB, AyG, AyF, eq_self, Nat.reduceEqDiff, ↓reduceIte, reduceCtorEq, ↓AA2]
    exact step r.length hmin.symm
   ·have hmin : min r.length 65535 = 65535 := by omega
    simp -dsimp (disch := first | assumption | omega | (simp only [AyC]; done) | (simp only [AyC]; omega)) only [↓AyE, AyB, AyG, AyF, eq_self, Nat.reduceEqDiff, ↓reduceIte, reduceCtorEq, ↓AA2]
    exact step 65535 hmin.symm
  cases first with
  | true =>
   simp -dsimp (disch := first | assumption | omega | (simp only [AyC]; done) | (simp only [AyC]; omega)) only [↓AyE, AyB, AyG, AyF, eq_self, Nat.reduceEqDiff, ↓reduceIte, reduceCtorEq, ↓AA8]
   exact round (.inl rfl) _
  | false =>
   by_cases h0 : 0 < r.length
   ·simp -dsimp (disch := first | assumption | omega | (simp only [AyC]; done) | (simp only [AyC]; omega)) only [↓AyE, AyB, AyG, AyF, eq_self, Nat.reduceEqDiff, ↓reduceIte, reduceCtorEq, ↓AA8]
    exact round (.inr h0) _
   ·rw [if_neg (fun h => h.elim (by simp) h0), List.append_nil] at hT
    simp -dsimp (disch := first | assumption | omega | (simp only [AyC]; done) | (simp only [AyC]; omega)) only [↓AyE, AyB, AyG, AyF, eq_self, Nat.reduceEqDiff, ↓reduceIte, reduceCtorEq, ↓ACk]
    rw [hT]
end Go.Proofs.YtfgljddikcghhaaDoor


namespace Go.Proofs.YtfgljddikcghhaaDoor
open Go.RowKit
variable [AyP]
set_option linter.unusedSectionVars false
set_option linter.unusedVariables false
set_option linter.unusedSimpArgs false

theorem A3C (n : Nat) (hn : n ≤ 100000000) {H : List Ob} : AyW Tryd.prog 47 [.val (.slice none 0 0), i64 (n : Int)] H (fun x H' => (n = 0 ∧ x = .val (.slice none 0 0) ∧ H' = H) ∨ (0 < n ∧ x = .os 1 H.length 0 [] 0 0 n ∧ H' = H ++ [.obj 0 (.arr n 1 (List.replicate n (by8 0)))])) := by
 refine AJb (by simp) ?_
 by_cases h0 : 0 < n
 ·simp -dsimp (disch := first | assumption | omega) only [↓AyE, AyB, AyG, AyF, eq_self, Nat.reduceEqDiff, ↓reduceIte, Nat.reduceAdd, reduceCtorEq, ↓AC8]
  exact .inr ⟨h0, rfl⟩
 ·have h1 : n = 0 := by omega
  subst h1
  simp -dsimp (disch := first | assumption | omega) only [↓AyE, AyB, AyG, AyF, eq_self, Nat.reduceLT, Nat.reduceEqDiff, ↓reduceIte, Nat.reduceAdd, reduceCtorEq, ↓AC8]
  exact .inl trivial
theorem A6Q (ls : List (List UInt8)) (hl : ls.length ≤ 1000) (hs : ls.flatten.length ≤ 100000000) {m w : Nat} {H : List Ob} (hm : H[m]? = some (.obj w (.arr ls.length 1 (ls.map slB)))) : AyW Tryd.prog 23 [.os 1 m w [] 0 ls.length ls.length] H (fun x H' => ∃ v cs N cp, x = .os 1 H.length v [] 0 ls.flatten.length cp ∧ H' = H ++ [.obj v (.arr N 1 cs)] ∧ cs.take ls.flatten.length = ls.flatten.map by8 ∧ ls.flatten.length ≤ cs.length) := by
 have hml : m < H.length := (List.getElem?_eq_some_iff.1 hm).1
 refine AHb (by simp) ?_
 have hsum : ∀ i, (ls.take i).flatten.length ≤ ls.flatten.length := fun i => by
  conv => rhs; rw [← List.take_append_drop i ls]
  rw [List.flatten_append, List.length_append]; omega
 have hsucc : ∀ i l, ls[i]? = some l → (ls.take (i + 1)).flatten = (ls.take i).flatten ++ l := fun i l h => by
  rw [List.take_add_one, h]; simp
 simp -dsimp (disch := first | assumption | omega) only [↓AyE, AyB, AyG, AyF, eq_self, Nat.reduceEqDiff, ↓reduceIte, reduceCtorEq, ↓Ay2]
 refine Azr (fun q e H' => ∃ i, q = ls.length - i ∧ i ≤ ls.length ∧ e = [(0, .os 1 m w [] 0 ls.length ls.length), (3, i64 (((ls.take i).flatten.length : Nat) : Int)), (9, .os 1 m w [] 0 ls.length ls.length), (10, i64 (ls.length : Int)), (11, i64 (i : Int))] ∧ H' = H) ls.length ?_ ?_
 ·exact ⟨0, rfl, by omega, rfl, rfl⟩
 ·rintro q e H ⟨i, hq, hi, rfl, rfl⟩
  by_cases h1 : i < ls.length
  ·obtain ⟨l, hg⟩ : ∃ l, ls[i]? = some l := ⟨_, List.getElem?_eq_getElem h1⟩
   have e1 := hsucc i l hg
   have e2 := hsum (i + 1)
   have e3 : (ls.take (i + 1)).flatten.length = (ls.take i).flatten.length + l.length := by rw [e1, List.length_append]
   generalize (ls.take i).flatten.length = a at *
   simp -dsimp (disch := first | assumption | omega) only [↓AyE, AyB, AyG, AyF, eq_self, Nat.reduceEqDiff, ↓reduceIte, reduceCtorEq, ↓Ay2, hg, hm]
   exact AyL (ls.length - (i + 1)) (by omega) (by simp) ⟨i + 1, rfl, by omega, by rw [e3]; rfl, rfl⟩
  ·have hil : i = ls.length := by omega
   subst hil
   rw [List.take_length]
   simp -dsimp (disch := first | assumption | omega) only [↓AyE, AyB, AyG, AyF, eq_self, Nat.reduceEqDiff, ↓reduceIte, reduceCtorEq, ↓Ay2]
   refine (A3C _ hs).mono fun x H' hx => ?_
   have fin : ∀ (v : Nat) (cs : List TV) (N cp : Nat), vwp Tryd.prog (.loop [6, 25, 26, 27] AzF) (Blk 2 (Thn Tryd.prog AzD (ASI AzW fun x H'_1 => ∃ v cs N cp, x = .os 1 H.length v [] 0 ls.flatten.length cp ∧ H'_1 = H ++ [.obj v (.arr N 1 cs)] ∧ cs.take ls.flatten.length = ls.flatten.map by8 ∧ ls.flatten.length ≤ cs.length)))
     [(6, .os 1 H.length v [] 0 0 cp), (25, .os 1 m w [] 0 ls.length ls.length), (26, i64 (ls.length : Int)), (27, i64 ((0 : Nat) : Int))] (H ++ [.obj v (.arr N 1 cs)]) := by
    intro v cs N cp
    refine Azr (fun q e H' => ∃ i v cs N cp, q = ls.length - i ∧ i ≤ ls.length ∧ (ls.take i).flatten.length ≤ cs.length ∧ cs.take (ls.take i).flatten.length = (ls.take i).flatten.map by8 ∧ e = [(6, .os 1 H.length v [] 0 (ls.take i).flatten.length cp), (25, .os 1 m w [] 0 ls.length ls.length), (26, i64 (ls.length : Int)), (27, i64 (i : Int))] ∧ H' = H ++ [.obj v (.arr N 1 cs)]) ls.length ?_ ?_
    ·exact ⟨0, v, cs, N, cp, rfl, by omega, by simp, by simp, rfl, rfl⟩
    ·rintro q e H' ⟨i, v, cs, N, cp, hq, hi, hc1, hc2, rfl, rfl⟩
     by_cases h1 : i < ls.length
     ·obtain ⟨l, hg⟩ : ∃ l, ls[i]? = some l := ⟨_, List.getElem?_eq_getElem h1⟩
      have e1 := hsucc i l hg
      have e2 := hsum (i + 1)
      have e3 : (ls.take (i + 1)).flatten.length = (ls.take i).flatten.length + l.length := by rw [e1, List.length_append]
      obtain ⟨a, ha⟩ : ∃ a, a = (ls.take i).flatten := ⟨_, rfl⟩
      rw [← ha] at hc1 hc2 e1 e3
      rw [← ha]
      have hm' : (H ++ [Ob.obj v (.arr N 1 cs)])[m]? = some (.obj w (.arr ls.length 1 (ls.map slB))) := by rw [List.getElem?_append_left hml]; exact hm
      have htk : (a.map by8).take a.length = a.map by8 := List.take_of_length_le (by simp)
      simp -dsimp (disch := first | assumption | omega) only [↓AyE, AyB, AyG, AyF, eq_self, Nat.reduceEqDiff, ↓reduceIte, ↓Ay2, hg, hc2, hm']
      exact AyL (ls.length - (i + 1)) (by omega) (by simp) ⟨i + 1, v + 1, a.map by8 ++ l.map by8, a.length + l.length, a.length + l.length, rfl, by omega, by rw [e3]; simp, by rw [e3, e1, List.map_append]; exact List.take_of_length_le (by simp), by rw [e3]; rfl, rfl⟩
     ·have hil : i = ls.length := by omega
      subst hil
      rw [List.take_length] at hc1 hc2
      rw [List.take_length]
      simp -dsimp (disch := first | assumption | omega) only [↓AyE, AyB, AyG, AyF, eq_self, Nat.reduceEqDiff, ↓reduceIte, ↓Ay2]
      exact ⟨v, cs, N, cp, rfl, rfl, hc2, hc1⟩
   rcases hx with ⟨h0, rfl, rfl⟩ | ⟨h0, rfl, rfl⟩
   ·simp -dsimp (disch := first | assumption | omega) only [↓AyE, AyB, AyG, AyF, eq_self, Nat.reduceEqDiff, ↓reduceIte, reduceCtorEq, ↓Ay2]
    exact fin _ _ _ _
   ·simp -dsimp (disch := first | assumption | omega) only [↓AyE, AyB, AyG, AyF, eq_self, Nat.reduceEqDiff, ↓reduceIte, reduceCtorEq, ↓Ay2]
    exact fin _ _ _ _
end Go.Proofs.YtfgljddikcghhaaDoor


namespace Go.Proofs.YtfgljddikcghhaaDoor
open Go.RowKit
variable [AyP]
set_option linter.unusedSectionVars false
set_option linter.unusedVariables false
set_option linter.unusedSimpArgs false

/-- A place of a tree. -/
abbrev plc (p : Int × Int) : TV := .arr 2 1 [i64 p.1, i64 p.2]
/-- A tree that stays as it is. -/
abbrev ANT (T : List (Int × Int)) : TV := .sl 2 (T.map plc)
/-- All ways lead to places, or out. -/
def ADO (T : List (Int × Int)) : Prop := ∀ p ∈ T, (-1000000 ≤ p.1 ∧ p.1 < T.length) ∧ (-1000000 ≤ p.2 ∧ p.2 < T.length)
/-- A symbol out of the bits: which, what is left. -/
def AKV (T : List (Int × Int)) : Nat → List Bool → Option (Nat × List Bool)
 | _, [] => none
 | a, b :: B => match T[a]? with
  | some p => let v := if b then p.2 else p.1
   if v < 0 then some ((-1 - v).toNat, B) else if v = 0 then none else AKV T v.toNat B
  | none => none
theorem A4E {id : Nat} {inn : List UInt8} {held count : Nat} {o m w : TV} {T : List (Int × Int)} {H : List Ob} (h : H[id]? = some (rdr inn held count o m w)) (hT : ADO T) (hT0 : 0 < T.length) (hi : inn.length ≤ 1000000) (hc : count ≤ 7) (hh : held < 2 ^ count) :
  Azs Tryd.prog 48 [.op id 0 [], ANT T] H
  (fun y H' => ∃ s inn' held' count', AKV T 0 (ACl inn held count) = some (s, ACl inn' held' count') ∧ y = i64 (s : Int) ∧ H' = H.set id (rdr inn' held' count' o m w) ∧ inn'.length ≤ inn.length ∧ count' ≤ 7 ∧ held' < 2 ^ count')
  (fun u H' => AKV T 0 (ACl inn held count) = none ∧ u = A46 ∧ ∃ y, H' = H.set id (.obj 0 y)) := by
 have hl : id < H.length := (List.getElem?_eq_some_iff.1 h).1
 refine AIY (by simp) ?_
 simp -dsimp (disch := first | assumption | omega | (simp only [AyC]; done) | (simp only [AyC]; omega)) only [↓AyE, AyB, AyG, AyF, eq_self, Nat.reduceEqDiff, ↓reduceIte, Nat.reduceAdd, reduceCtorEq, ↓AzC]
 refine Azr (fun q e H' => ∃ a inn1 held1 count1, q = (ACl inn1 held1 count1).length ∧ a < T.length ∧ e = [(0, .op id 0 []), (1, ANT T), (5, i64 (a : Int))] ∧ H' = H.set id (rdr inn1 held1 count1 o m w) ∧ inn1.length ≤ inn.length ∧ count1 ≤ 7 ∧ held1 < 2 ^ count1 ∧ AKV T 0 (ACl inn held count) = AKV T a (ACl inn1 held1 count1)) (ACl inn held count).length ?_ ?_
 ·exact ⟨0, inn, held, count, rfl, hT0, rfl, (ASL h).symm, Nat.le_refl _, hc, hh, rfl⟩
 ·rintro q e H' ⟨a, inn1, held1, count1, rfl, ha, rfl, rfl, k1, k2, k3, k4⟩
  have h' : (H.set id (rdr inn1 held1 count1 o m w))[id]? = some (rdr inn1 held1 count1 o m w) := by simp [hl]
  simp -dsimp (disch := first | assumption | omega | (simp only [AyC]; done) | (simp only [AyC]; omega)) only [↓AyE, AyB, AyG, AyF, eq_self, Nat.reduceEqDiff, ↓reduceIte, reduceCtorEq, ↓AzC]
  refine (A7F (n := 1) h' (by omega) (by omega) k2 k3).callsP ?_ ?_
  ·rintro y H' ⟨inn2, held2, count2, q1, rfl, rfl, q2, q3, q4, q5⟩
   obtain ⟨b, B, hB⟩ : ∃ b B, ACl inn1 held1 count1 = b :: B := by
    cases hr : ACl inn1 held1 count1 with
    | nil => rw [hr] at q1; simp at q1
    | cons b B => exact ⟨b, B, rfl⟩
   obtain ⟨p, hp, hpe⟩ : ∃ p, T[a]? = some p ∧ T[a] = p := ⟨_, List.getElem?_eq_getElem ha, rfl⟩
   rw [hB] at q5 ⊢
   rw [List.drop_succ_cons, List.drop_zero] at q5
   rw [List.set_set]
   have hTp : (T.map plc)[a]? = some (plc p) := by rw [List.getElem?_map, hp]; rfl
   cases b with
   | true =>
    have hv : ACP ([true] : List Bool) = 1 := rfl
    simp -dsimp (disch := first | assumption | omega | (simp only [AyC]; done) | (simp only [AyC]; omega)) only [↓AyE, AyB, AyG, AyF, eq_self, Nat.reduceEqDiff, ↓reduceIte, reduceCtorEq, hpe, hv]
    obtain ⟨g1, g2⟩ := (hT p (List.mem_of_getElem? hp)).2
    have hst : AKV T a (true :: B) = (if p.2 < 0 then some ((-1 - p.2).toNat, B) else if p.2 = 0 then none else AKV T p.2.toNat B) := by rw [AKV, hp]; rfl
    by_cases c1 : p.2 < 0
    ·rw [if_pos c1] at hst
     simp -dsimp (disch := first | assumption | omega | (simp only [AyC]; done) | (simp only [AyC]; omega)) only [↓AyE, AyB, AyG, AyF, eq_self, Nat.reduceEqDiff, ↓reduceIte, reduceCtorEq, ↓AzC]
     exact ⟨(-1 - p.2).toNat, inn2, held2, count2, by rw [k4, hB, hst, q5], by rw [Int.toNat_of_nonneg (by omega)], rfl, by omega, q3, q4⟩
    rw [if_neg c1] at hst
    by_cases c2 : p.2 = 0
    ·rw [if_pos c2] at hst
     simp -dsimp (disch := first | assumption | omega | (simp only [AyC]; done) | (simp only [AyC]; omega)) only [↓AyE, AyB, AyG, AyF, eq_self, Nat.reduceEqDiff, ↓reduceIte, reduceCtorEq, c2]
     exact ⟨by rw [k4, hB, hst], rfl, _, rfl⟩
    rw [if_neg c2] at hst
    obtain ⟨n, hn⟩ : ∃ n : Nat, p.2 = (n : Int) := ⟨p.2.toNat, by omega⟩
    rw [hn] at hst g2 ⊢
    rw [Int.toNat_natCast] at hst
    simp -dsimp (disch := first | assumption | omega | (simp only [AyC]; done) | (simp only [AyC]; omega)) only [↓AyE, AyB, AyG, AyF, eq_self, Nat.reduceEqDiff, ↓reduceIte, reduceCtorEq]
    exact AyL (ACl inn2 held2 count2).length (by rw [q5]; omega) (by simp) ⟨n, inn2, held2, count2, rfl, by omega, rfl, rfl, by omega, q3, q4, by rw [k4, hB, hst, q5]⟩
   | false =>
    have hv : ACP ([false] : List Bool) = 0 := rfl
    simp -dsimp (disch := first | assumption | omega | (simp only [AyC]; done) | (simp only [AyC]; omega)) only [↓AyE, AyB, AyG, AyF, eq_self, Nat.reduceEqDiff, ↓reduceIte, reduceCtorEq, hpe, hv]
    obtain ⟨g1, g2⟩ := (hT p (List.mem_of_getElem? hp)).1
    have hst : AKV T a (false :: B) = (if p.1 < 0 then some ((-1 - p.1).toNat, B) else if p.1 = 0 then none else AKV T p.1.toNat B) := by rw [AKV, hp]; rfl
    by_cases c1 : p.1 < 0
    ·rw [if_pos c1] at hst
     simp -dsimp (disch := first | assumption | omega | (simp only [AyC]; done) | (simp only [AyC]; omega)) only [↓AyE, AyB, AyG, AyF, eq_self, Nat.reduceEqDiff, ↓reduceIte, reduceCtorEq, ↓AzC]
     exact ⟨(-1 - p.1).toNat, inn2, held2, count2, by rw [k4, hB, hst, q5], by rw [Int.toNat_of_nonneg (by omega)], rfl, by omega, q3, q4⟩
    rw [if_neg c1] at hst
    by_cases c2 : p.1 = 0
    ·rw [if_pos c2] at hst
     simp -dsimp (disch := first | assumption | omega | (simp only [AyC]; done) | (simp only [AyC]; omega)) only [↓AyE, AyB, AyG, AyF, eq_self, Nat.reduceEqDiff, ↓reduceIte, reduceCtorEq, c2]
     exact ⟨by rw [k4, hB, hst], rfl, _, rfl⟩
    rw [if_neg c2] at hst
    obtain ⟨n, hn⟩ : ∃ n : Nat, p.1 = (n : Int) := ⟨p.1.toNat, by omega⟩
    rw [hn] at hst g2 ⊢
    rw [Int.toNat_natCast] at hst
    simp -dsimp (disch := first | assumption | omega | (simp only [AyC]; done) | (simp only [AyC]; omega)) only [↓AyE, AyB, AyG, AyF, eq_self, Nat.reduceEqDiff, ↓reduceIte, reduceCtorEq]
    exact AyL (ACl inn2 held2 count2).length (by rw [q5]; omega) (by simp) ⟨n, inn2, held2, count2, rfl, by omega, rfl, rfl, by omega, q3, q4, by rw [k4, hB, hst, q5]⟩
  ·rintro u H' ⟨q1, rfl, y, rfl⟩
   have hB : ACl inn1 held1 count1 = [] := List.length_eq_zero_iff.1 (by omega)
   simp -dsimp (disch := first | assumption | omega | (simp only [AyC]; done) | (simp only [AyC]; omega)) only [AyF, eq_self]
   exact ⟨by rw [k4, hB, AKV], _, rfl⟩
end Go.Proofs.YtfgljddikcghhaaDoor


namespace Go.Proofs.YtfgljddikcghhaaDoor
open Go.RowKit
variable [AyP]
set_option linter.unusedSectionVars false
set_option linter.unusedVariables false
set_option linter.unusedSimpArgs false

section
omit [AyP]
def AEL (T : List (Int × Int)) (a : Nat) (b : Bool) : Int := match T[a]? with
 | some p => if b then p.2 else p.1
 | none => 0
def AR7 (T : List (Int × Int)) (a : Nat) (b : Bool) (v : Int) : List (Int × Int) := match T[a]? with
 | some p => T.set a (if b then (p.1, v) else (v, p.2))
 | none => T
/-- One symbol more: n bits above the last one are A0g to be gone. -/
def AQv : Nat → List (Int × Int) → Nat → Nat → Nat → List (Int × Int)
 | 0, T, a, code, s => AR7 T a (code % 2 == 1) (-1 - (s : Int))
 | n + 1, T, a, code, s =>
  if AEL T a (code / 2 ^ (n + 1) % 2 == 1) = 0 then AQv n (AR7 (T ++ [(0, 0)]) a (code / 2 ^ (n + 1) % 2 == 1) (T.length : Int)) T.length code s
  else AQv n T (AEL T a (code / 2 ^ (n + 1) % 2 == 1)).toNat code s
/-- No symbol stands in the way. -/
def ATV : Nat → List (Int × Int) → Nat → Nat → Prop
 | 0, T, a, _ => a < T.length
 | n + 1, T, a, code => a < T.length ∧ (if AEL T a (code / 2 ^ (n + 1) % 2 == 1) = 0 then ATV n (AR7 (T ++ [(0, 0)]) a (code / 2 ^ (n + 1) % 2 == 1) (T.length : Int)) T.length code
  else 0 < AEL T a (code / 2 ^ (n + 1) % 2 == 1) ∧ ATV n T (AEL T a (code / 2 ^ (n + 1) % 2 == 1)).toNat code)
theorem AMF (T : List (Int × Int)) (a : Nat) (b : Bool) (v : Int) : (AR7 T a b v).length = T.length := by
 unfold AR7; split <;> simp
end
theorem BcG {it j v n code s : Nat} {T : List (Int × Int)} {H : List Ob} (hit : H[it]? = some (.obj 0 (.os 2 j v [] 0 T.length T.length))) (hj : H[j]? = some (.obj v (.arr T.length 2 (T.map plc)))) (hne : it ≠ j) (hn : n + 1 ≤ 15) (hc : code ≤ 1000000000) (hs : s ≤ 100000) (hT : T.length ≤ 100000) (hok : ATV n T 0 code) :
  AyW Tryd.prog 49 [.op it 0 [], i64 (code : Int), i64 ((n + 1 : Nat) : Int), i64 (s : Int)] H
  (fun x H' => ∃ v', H'[it]? = some (.obj 0 (.os 2 j v' [] 0 (AQv n T 0 code s).length (AQv n T 0 code s).length)) ∧ H'[j]? = some (.obj v' (.arr (AQv n T 0 code s).length 2 ((AQv n T 0 code s).map plc))) ∧ (∀ i, i < H.length → i ≠ it → i ≠ j → H'[i]? = H[i]?) ∧ H.length ≤ H'.length ∧ (AQv n T 0 code s).length ≤ T.length + n) := by
 have hit_l := (List.getElem?_eq_some_iff.1 hit).1
 have hj_l := (List.getElem?_eq_some_iff.1 hj).1
 refine AOh (by simp) ?_
 simp -dsimp (disch := first | assumption | omega | (simp only [AyC]; done) | (simp only [AyC]; omega)) only [↓AyE, AyB, AyG, AyF, eq_self, Nat.reduceEqDiff, ↓reduceIte, Nat.reduceAdd, reduceCtorEq, ↓Azl]
 rw [hit]
 refine ⟨rfl, ?_⟩
 show vwp Tryd.prog (.loop [0, 1, 2, 3, 8] AAY) _ _ H
 refine Azr (fun q e H' => ∃ (T1 : List (Int × Int)) (a v1 : Nat), q ≤ n ∧ e = [(0, .op it 0 []), (1, i64 (code : Int)), (2, i64 (q : Int)), (3, i64 (s : Int)), (8, i64 (a : Int))] ∧ AQv n T 0 code s = AQv q T1 a code s ∧ ATV q T1 a code ∧ T1.length + q ≤ T.length + n ∧
  H'[it]? = some (.obj 0 (.os 2 j v1 [] 0 T1.length T1.length)) ∧ H'[j]? = some (.obj v1 (.arr T1.length 2 (T1.map plc))) ∧ (∀ i, i < H.length → i ≠ it → i ≠ j → H'[i]? = H[i]?) ∧ H.length ≤ H'.length) n ?_ ?_
 ·exact ⟨T, 0, v, Nat.le_refl _, rfl, rfl, hok, Nat.le_refl _, hit, hj, fun _ _ _ _ => rfl, Nat.le_refl _⟩
 ·rintro q e H' ⟨T1, a, v1, hq, rfl, hadd, hok1, hlen, h1, h2, h3, h4⟩
  cases q with
  | zero =>
   have ha : a < T1.length := hok1
   obtain ⟨p, hp, hpe⟩ : ∃ p, T1[a]? = some p ∧ T1[a] = p := ⟨_, List.getElem?_eq_getElem ha, rfl⟩
   rw [AQv] at hadd
   have hsub : (-1 : Int) - (s : Int) = -1 - (s : Int) := rfl
   have hand : code &&& 1 = code % 2 := Nat.and_one_is_mod code
   rcases Nat.mod_two_eq_zero_or_one code with hb | hb
   ·rw [hb] at hadd hand
    have hset : AR7 T1 a ((0 : Nat) == 1) (-1 - (s : Int)) = T1.set a (-1 - (s : Int), p.2) := by unfold AR7; rw [hp]; rfl
    rw [hset] at hadd
    simp -dsimp (disch := first | assumption | omega | (simp only [AyC]; done) | (simp only [AyC]; omega)) only [↓AyE, AyB, AyG, AyF, eq_self, Nat.reduceLT, Nat.reduceEqDiff, ↓reduceIte, reduceCtorEq, ↓Azl, h1, h2, hp, hand]
    rw [hadd]
    exact ⟨v1, by simp, by simp [List.map_set], fun i hi h5 h6 => by rw [List.getElem?_set_ne (Ne.symm h6)]; exact h3 i hi h5 h6, h4, by simp; omega⟩
   ·rw [hb] at hadd hand
    have hset : AR7 T1 a ((1 : Nat) == 1) (-1 - (s : Int)) = T1.set a (p.1, -1 - (s : Int)) := by unfold AR7; rw [hp]; rfl
    rw [hset] at hadd
    simp -dsimp (disch := first | assumption | omega | (simp only [AyC]; done) | (simp only [AyC]; omega)) only [↓AyE, AyB, AyG, AyF, eq_self, Nat.reduceLT, Nat.reduceEqDiff, ↓reduceIte, reduceCtorEq, ↓Azl, h1, h2, hp, hand]
    rw [hadd]
    exact ⟨v1, by simp, by simp [List.map_set], fun i hi h5 h6 => by rw [List.getElem?_set_ne (Ne.symm h6)]; exact h3 i hi h5 h6, h4, by simp; omega⟩
  | succ q =>
   rw [AQv] at hadd
   rw [ATV] at hok1
   obtain ⟨ha, hok1⟩ := hok1
   obtain ⟨p, hp, hpe⟩ : ∃ p, T1[a]? = some p ∧ T1[a] = p := ⟨_, List.getElem?_eq_getElem ha, rfl⟩
   have hcle : code / 2 ^ (q + 1) ≤ 1000000000 := Nat.le_trans (Nat.div_le_self _ _) hc
   generalize hcq : code / 2 ^ (q + 1) = cq at *
   have hand : cq &&& 1 = cq % 2 := Nat.and_one_is_mod cq
   rcases Nat.mod_two_eq_zero_or_one cq with hb | hb
   ·rw [hb] at hadd hok1 hand
    have hsl : AEL T1 a ((0 : Nat) == 1) = p.1 := by unfold AEL; rw [hp]; rfl
    rw [hsl] at hadd hok1
    by_cases hp0 : p.1 = 0
    ·rw [if_pos hp0] at hadd hok1
     have hpA : (T1.map plc ++ [TV.arr 2 1 [i64 ((0 : Nat) : Int), i64 ((0 : Nat) : Int)]])[a]? = some (plc p) := by rw [List.getElem?_append_left (by simpa using ha), List.getElem?_map, hp]; rfl
     have hgs : ∀ X : TV, ((T1.map plc ++ [TV.arr 2 1 [i64 ((0 : Nat) : Int), i64 ((0 : Nat) : Int)]]).set a X)[a]? = some X := fun X => by rw [List.getElem?_set_self (by simp; omega)]
     have hlA : (T1.map plc ++ [TV.arr 2 1 [i64 ((0 : Nat) : Int), i64 ((0 : Nat) : Int)]]).length = T1.length + 1 := by simp
     simp -dsimp (disch := first | assumption | omega | (simp only [AyC]; done) | (simp only [AyC]; omega)) only [↓AyE, AyB, AyG, AyF, eq_self, Nat.reduceLT, Nat.reduceEqDiff, ↓reduceIte, reduceCtorEq, Nat.reduceLeDiff, ↓Azl, h1, h2, hp, hcq, hand, hp0, AGf, hpA, hgs]
     have hset : AR7 (T1 ++ [(0, 0)]) a ((0 : Nat) == 1) (T1.length : Int) = (T1 ++ [(0, 0)]).set a ((T1.length : Int), p.2) := by
      unfold AR7; rw [List.getElem?_append_left ha, hp]; rfl
     rw [hset] at hadd hok1
     have hmap : (T1.map plc ++ [TV.arr 2 1 [i64 ((0 : Nat) : Int), i64 ((0 : Nat) : Int)]]).set a (TV.arr 2 1 [i64 (T1.length : Int), i64 p.2]) = ((T1 ++ [(0, 0)]).set a ((T1.length : Int), p.2)).map plc := by
      rw [List.map_set, List.map_append]; rfl
     rw [hmap]
     have hjl : j < H'.length := (List.getElem?_eq_some_iff.1 h2).1
     have hil : it < H'.length := (List.getElem?_eq_some_iff.1 h1).1
     refine AyL q (by omega) (by simp; omega) ⟨(T1 ++ [(0, 0)]).set a ((T1.length : Int), p.2), T1.length, v1 + 1, by omega, rfl, hadd, hok1, by simp; omega, ?_, ?_, fun i hi h5 h6 => ?_, by simp; omega⟩
     ·simp [List.getElem?_append, hil, Ne.symm hne]
     ·simp [List.getElem?_append, hjl]
     ·have : i < H'.length := by omega
      simp [List.getElem?_append, this, Ne.symm h5, Ne.symm h6]
      rw [← List.getElem?_eq_getElem this]
      exact h3 i hi h5 h6
    ·rw [if_neg hp0] at hadd hok1
     obtain ⟨hpos, hok2⟩ := hok1
     obtain ⟨m, hm⟩ : ∃ m : Nat, p.1 = (m : Int) := ⟨p.1.toNat, by omega⟩
     rw [hm, Int.toNat_natCast] at hadd hok2
     have hm0 : ¬ (m = 0) := by omega
     simp -dsimp (disch := first | assumption | omega | (simp only [AyC]; done) | (simp only [AyC]; omega)) only [↓AyE, AyB, AyG, AyF, eq_self, Nat.reduceLT, Nat.reduceEqDiff, ↓reduceIte, reduceCtorEq, ↓Azl, h1, h2, hp, hcq, hand, hm]
     exact AyL q (by omega) h4 ⟨T1, m, v1, by omega, rfl, hadd, hok2, by omega, h1, h2, h3, h4⟩
   ·rw [hb] at hadd hok1 hand
    have hsl : AEL T1 a ((1 : Nat) == 1) = p.2 := by unfold AEL; rw [hp]; rfl
    rw [hsl] at hadd hok1
    by_cases hp0 : p.2 = 0
    ·rw [if_pos hp0] at hadd hok1
     have hpA : (T1.map plc ++ [TV.arr 2 1 [i64 ((0 : Nat) : Int), i64 ((0 : Nat) : Int)]])[a]? = some (plc p) := by rw [List.getElem?_append_left (by simpa using ha), List.getElem?_map, hp]; rfl
     have hgs : ∀ X : TV, ((T1.map plc ++ [TV.arr 2 1 [i64 ((0 : Nat) : Int), i64 ((0 : Nat) : Int)]]).set a X)[a]? = some X := fun X => by rw [List.getElem?_set_self (by simp; omega)]
     have hlA : (T1.map plc ++ [TV.arr 2 1 [i64 ((0 : Nat) : Int), i64 ((0 : Nat) : Int)]]).length = T1.length + 1 := by simp
     simp -dsimp (disch := first | assumption | omega | (simp only [AyC]; done) | (simp only [AyC]; omega)) only [↓AyE, AyB, AyG, AyF, eq_self, Nat.reduceLT, Nat.reduceEqDiff, ↓reduceIte, reduceCtorEq, Nat.reduceLeDiff, ↓Azl, h1, h2, hp, hcq, hand, hp0, AGf, hpA, hgs]
     have hset : AR7 (T1 ++ [(0, 0)]) a ((1 : Nat) == 1) (T1.length : Int) = (T1 ++ [(0, 0)]).set a (p.1, (T1.length : Int)) := by
      unfold AR7; rw [List.getElem?_append_left ha, hp]; rfl
     rw [hset] at hadd hok1
     have hmap : (T1.map plc ++ [TV.arr 2 1 [i64 ((0 : Nat) : Int), i64 ((0 : Nat) : Int)]]).set a (TV.arr 2 1 [i64 p.1, i64 (T1.length : Int)]) = ((T1 ++ [(0, 0)]).set a (p.1, (T1.length : Int))).map plc := by
      rw [List.map_set, List.map_append]; rfl
     rw [hmap]
     have hjl : j < H'.length := (List.getElem?_eq_some_iff.1 h2).1
     have hil : it < H'.length := (List.getElem?_eq_some_iff.1 h1).1
     refine AyL q (by omega) (by simp; omega) ⟨(T1 ++ [(0, 0)]).set a (p.1, (T1.length : Int)), T1.length, v1 + 1, by omega, rfl, hadd, hok1, by simp; omega, ?_, ?_, fun i hi h5 h6 => ?_, by simp; omega⟩
     ·simp [List.getElem?_append, hil, Ne.symm hne]
     ·simp [List.getElem?_append, hjl]
     ·have : i < H'.length := by omega
      simp [List.getElem?_append, this, Ne.symm h5, Ne.symm h6]
      rw [← List.getElem?_eq_getElem this]
      exact h3 i hi h5 h6
    ·rw [if_neg hp0] at hadd hok1
     obtain ⟨hpos, hok2⟩ := hok1
     obtain ⟨m, hm⟩ : ∃ m : Nat, p.2 = (m : Int) := ⟨p.2.toNat, by omega⟩
     rw [hm, Int.toNat_natCast] at hadd hok2
     have hm0 : ¬ (m = 0) := by omega
     simp -dsimp (disch := first | assumption | omega | (simp only [AyC]; done) | (simp only [AyC]; omega)) only [↓AyE, AyB, AyG, AyF, eq_self, Nat.reduceLT, Nat.reduceEqDiff, ↓reduceIte, reduceCtorEq, ↓Azl, h1, h2, hp, hcq, hand, hm]
     exact AyL q (by omega) h4 ⟨T1, m, v1, by omega, rfl, hadd, hok2, by omega, h1, h2, h3, h4⟩
end Go.Proofs.YtfgljddikcghhaaDoor


namespace Go.Proofs.YtfgljddikcghhaaDoor
open Go.RowKit
variable [AyP]
set_option linter.unusedSectionVars false
set_option linter.unusedVariables false

section
omit [AyP]
/-- Where the codes of n bits begin. -/
def stN (ls : List Nat) : Nat → Nat
 | 0 => 0
 | 1 => 0
 | n + 2 => (stN ls (n + 1) + ls.count (n + 1)) * 2
/-- How many codes of n bits are left. -/
def ACV (ls : List Nat) : Nat → Int
 | 0 => 1
 | n + 1 => ACV ls n * 2 - (ls.count (n + 1) : Int)
def AIK (ls : List Nat) : Nat → Nat
 | 0 => 0
 | n + 1 => AIK ls n + ls.count (n + 1)
def AEf (ls : List Nat) (n : Nat) : Prop := ∀ k, k ≤ n → 0 ≤ ACV ls k
def okP (ls : List Nat) (few non : Bool) : Prop := AEf ls 15 ∧ (ACV ls 15 ≤ 0 ∨ (few = true ∧ AIK ls 15 = 1 ∧ ls.count 1 = 1) ∨ (non = true ∧ AIK ls 15 = 0))
/-- The bits of the symbol i. -/
def AAt (ls : List Nat) (n i : Nat) : Nat := stN ls n + (ls.take i).count n
def AAc (ls : List Nat) : Nat → List (Int × Int)
 | 0 => [(0, 0)]
 | i + 1 => match ls[i]? with
  | some (n + 1) => AQv n (AAc ls i) 0 (AAt ls (n + 1) i) i
  | _ => AAc ls i
def AX7 (ls : List Nat) : Prop := ∀ i n, ls[i]? = some (n + 1) → ATV n (AAc ls i) 0 (AAt ls (n + 1) i)
theorem AQp (ls : List Nat) : ∀ n, ACV ls (n + 1) = (2 : Int) ^ (n + 1) - ((stN ls (n + 1) + ls.count (n + 1) : Nat) : Int)
 | 0 => by simp [ACV, stN]
 | n + 1 => by
  rw [ACV, AQp ls n, stN, Int.pow_succ _ (n + 1)]
  push_cast
  omega
theorem ATc : ∀ (n : Nat) (T : List (Int × Int)) (a code s : Nat), (AQv n T a code s).length ≤ T.length + n
 | 0, T, a, code, s => by rw [AQv, AMF]; omega
 | n + 1, T, a, code, s => by
  rw [AQv]
  split
  ·have := ATc n (AR7 (T ++ [(0, 0)]) a (code / 2 ^ (n + 1) % 2 == 1) (T.length : Int)) T.length code s
   rw [AMF, List.length_append] at this
   simp at this; omega
  ·have := ATc n T (AEL T a (code / 2 ^ (n + 1) % 2 == 1)).toNat code s
   omega
theorem ATN (ls : List Nat) (h : ∀ n ∈ ls, n ≤ 15) : ∀ i, (AAc ls i).length ≤ 1 + 15 * i
 | 0 => by simp [AAc]
 | i + 1 => by
  have ih := ATN ls h i
  rw [AAc]
  split
  ·rename_i n hn
   have := ATc n (AAc ls i) 0 (AAt ls (n + 1) i) i
   have := h _ (List.mem_of_getElem? hn)
   omega
  ·omega
theorem AWv (ls : List Nat) {m : Nat} (h : AEf ls m) : ∀ n, n ≤ m + 1 → stN ls n ≤ 2 ^ n ∧ (1 ≤ n → n ≤ m → stN ls n + ls.count n ≤ 2 ^ n)
 | 0, _ => ⟨by simp [stN], fun h => by omega⟩
 | 1, hn => ⟨by simp [stN], fun _ h1 => by
  have h2 := h 1 h1
  have h3 : ACV ls 1 = 2 - ((stN ls 1 + ls.count 1 : Nat) : Int) := AQp ls 0
  rw [h3] at h2
  have : (2 : Nat) ^ 1 = 2 := rfl
  omega⟩
 | n + 2, hn => by
  have h1 := (AWv ls h (n + 1) (by omega)).2 (by omega) (by omega)
  refine ⟨by rw [stN, Nat.pow_succ]; omega, fun _ h2 => ?_⟩
  have h4 := h (n + 2) h2
  have h3 : ACV ls (n + 2) = ((2 ^ (n + 2) : Nat) : Int) - ((stN ls (n + 2) + ls.count (n + 2) : Nat) : Int) := by rw [AQp ls (n + 1)]; push_cast; rfl
  rw [h3] at h4
  omega
end
end Go.Proofs.YtfgljddikcghhaaDoor


namespace Go.Proofs.YtfgljddikcghhaaDoor
open Go.RowKit
variable [AyP]
set_option linter.unusedSectionVars false
set_option linter.unusedVariables false

section
omit [AyP]
/-- A reader takes something. -/
def A13 (r : Rd) : Prop := ∀ B y B1, r B = some (y, B1) → B1.length < B.length
theorem A3M {sd : Rd} (hd : A13 sd) {y : Nat} {B B2 : List Bool} {n far : Nat} (h : A9x sd y B = some (n, far, B2)) : B2.length ≤ B.length := by
 unfold A9x at h
 split at h
 ·cases h
 ·split at h
  ·cases h
  ·rename_i d B3 hs
   split at h
   ·cases h
   ·split at h
    ·cases h
    ·cases h
     have := hd _ _ _ hs
     rw [List.length_drop] at this ⊢
     omega
theorem AQn {sl sd : Rd} (hl : A13 sl) (hd : A13 sd) {most win : Int} : ∀ {f : Nat} {B : List Bool} {l : List UInt8} {B' : List Bool} {l' : List UInt8}, ASX sl sd most win f B l = .ok (B', l') → B'.length ≤ B.length
 | 0, B, l, B', l', h => by simp [ASX] at h
 | f + 1, B, l, B', l', h => by
  rw [ASX] at h
  split at h
  ·cases h
  ·rename_i y B1 hs
   have h1 := hl _ _ _ hs
   split at h
   ·split at h
    ·cases h
    ·have := AQn hl hd h; omega
   ·split at h
    ·cases h; omega
    ·split at h
     ·cases h
     ·split at h
      ·cases h
      ·rename_i n far B2 hr
       have h2 := A3M hd hr
       split at h
       ·cases h
       ·split at h
        ·cases h
        ·have := AQn hl hd h; omega
theorem ATY {sc : Rd} (hc : A13 sc) {tot : Nat} : ∀ {f : Nat} {B : List Bool} {row row' : List Nat} {B' : List Bool}, APF sc tot f B row = some (row', B') → B'.length ≤ B.length
 | 0, B, row, row', B', h => by simp [APF] at h
 | f + 1, B, row, row', B', h => by
  rw [APF] at h
  split at h
  ·cases h; omega
  ·split at h
   ·cases h
   ·rename_i y B1 hs
    have h1 := hc _ _ _ hs
    split at h
    ·cases h
    ·split at h
     ·cases h
     ·split at h
      ·cases h
      ·have := ATY hc h
       rw [List.length_drop] at this
       omega
theorem ATW {okc : List Nat → Bool → Bool → Bool} {rd : List Nat → Rd} (hr : ∀ ls, A13 (rd ls)) {B : List Bool} {a b : List Nat} {B' : List Bool} (h : AQ4 okc rd B = some (a, b, B')) : B'.length ≤ B.length := by
 unfold AQ4 at h
 split at h
 ·cases h
 ·split at h
  ·cases h
  ·split at h
   ·cases h
   ·split at h
    ·cases h
    ·split at h
     ·cases h
     ·rename_i row B2 hs
      have := ATY (hr _) hs
      rw [List.length_drop] at this
      split at h
      ·cases h
      ·cases h; omega
theorem AVd {most : Int} {B : List Bool} {l : List UInt8} {B' : List Bool} {l' : List UInt8} (h : APn most B l = .ok (B', l')) : B'.length ≤ B.length := by
 unfold APn at h
 simp only at h
 split at h
 ·cases h
 ·split at h
  ·cases h
  ·cases h
   simp only [List.length_drop]
   omega
theorem AWN {okc : List Nat → Bool → Bool → Bool} {rd : List Nat → Rd} (hr : ∀ ls, A13 (rd ls)) {most win : Int} {B : List Bool} {l : List UInt8} {b : Bool} {B' : List Bool} {l' : List UInt8} (h : ANF okc rd most win B l = (b, .ok (B', l'))) : B'.length < B.length := by
 unfold ANF at h
 split at h
 ·cases h
 ·have h3 : (B.drop 3).length < B.length := by rw [List.length_drop]; omega
  simp only [Prod.mk.injEq] at h
  obtain ⟨_, h⟩ := h
  unfold AYk at h
  split at h
  ·have := AVd h; omega
  ·have := AQn (hr _) (hr _) h; omega
  ·split at h
   ·cases h
   ·rename_i a b B2 ht
    have h1 := ATW hr ht
    split at h
    ·have := AQn (hr _) (hr _) h; omega
    ·cases h
  ·cases h
end
end Go.Proofs.YtfgljddikcghhaaDoor


namespace Go.Proofs.YtfgljddikcghhaaDoor
open Go.RowKit
variable [AyP]
set_option linter.unusedSectionVars false
set_option linter.unusedVariables false
set_option linter.unusedSimpArgs false

abbrev AUB (e : Nat) : Value := .iface 28 (.int .i64 (e : Int))
/-- The reader, bits B left. -/
structure AzL (H : List Ob) (id : Nat) (B : List Bool) (o : TV) (l : List UInt8) (most win : Int) (J : Option Nat) : Prop where
 ob : ∃ inn held count, B = ACl inn held count ∧ inn.length ≤ 1000000 ∧ count ≤ 7 ∧ held < 2 ^ count ∧ H[id]? = some (rdr inn held count o (i64 most) (i64 win))
 row : AUT H o l J
 ne : J ≠ some id
 len : l.length ≤ 1000000
theorem AzL.lt {H : List Ob} {id : Nat} {B : List Bool} {o : TV} {l : List UInt8} {most win : Int} {J : Option Nat} (h : AzL H id B o l most win J) : id < H.length := by
 obtain ⟨_, _, _, _, _, _, _, h⟩ := h.ob
 exact (List.getElem?_eq_some_iff.1 h).1
theorem AzL.jlt {H : List Ob} {id : Nat} {B : List Bool} {o : TV} {l : List UInt8} {most win : Int} {J : Option Nat} (h : AzL H id B o l most win J) {j : Nat} (hj : J = some j) : j < H.length := by
 have := h.row; subst hj
 obtain ⟨v, _, h2⟩ := this
 exact (List.getElem?_eq_some_iff.1 h2).1
theorem AzL.keep {H H' : List Ob} {id : Nat} {B : List Bool} {o : TV} {l : List UInt8} {most win : Int} {J : Option Nat} (h : AzL H id B o l most win J) (hk : ∀ i, i = id ∨ J = some i → H'[i]? = H[i]?) : AzL H' id B o l most win J := by
 refine ⟨by rw [hk id (.inl rfl)]; exact h.ob, ?_, h.ne, h.len⟩
 have hr := h.row
 cases J with
 | none => exact hr
 | some j =>
  obtain ⟨v, h1, h2⟩ := hr
  exact ⟨v, h1, by rw [hk j (.inr rfl)]; exact h2⟩
theorem AzL.app {H : List Ob} {id : Nat} {B : List Bool} {o : TV} {l : List UInt8} {most win : Int} {J : Option Nat} (h : AzL H id B o l most win J) {G : List Ob} : AzL (H ++ G) id B o l most win J := h.keep fun i hi => by
 rcases hi with rfl | hi
 ·exact List.getElem?_append_left h.lt
 ·exact List.getElem?_append_left (h.jlt hi)
theorem AzL.set {H : List Ob} {id : Nat} {B : List Bool} {o : TV} {l : List UInt8} {most win : Int} {J : Option Nat} (h : AzL H id B o l most win J) {k : Nat} {x : Ob} (h1 : k ≠ id) (h2 : J ≠ some k) : AzL (H.set k x) id B o l most win J := h.keep fun i hi => by
 rcases hi with rfl | hi
 ·exact List.getElem?_set_ne h1
 ·exact List.getElem?_set_ne (fun e => h2 (by rw [e]; exact hi))
theorem AQN {id n : Nat} {B : List Bool} {o : TV} {l : List UInt8} {most win : Int} {J : Option Nat} {H : List Ob} (h : AzL H id B o l most win J) (hn : n ≤ 16) : Azs Tryd.prog 24 [.op id 0 [], i64 (n : Int)] H
  (fun x H' => Frm id none H H' ∧ H'.length = H.length ∧ n ≤ B.length ∧ x = i64 ((ACP (B.take n) : Nat) : Int) ∧ AzL H' id (B.drop n) o l most win J)
  (fun u H' => B.length < n ∧ u = AUB 10 ∧ Frm id none H H') := by
 have hlt := h.lt
 obtain ⟨inn, held, count, rfl, h1, h2, h3, h4⟩ := h.ob
 refine (A7F h4 hn h1 h2 h3).mono ?_ ?_
 ·rintro x H' ⟨inn', held', count', k1, k2, rfl, k4, k5, k6, k7⟩
  exact ⟨Frm.set, by simp, k1, k2, ⟨inn', held', count', k7.symm, by omega, k5, k6, by simp [hlt]⟩, h.row.set h.ne, h.ne, h.len⟩
 ·rintro u H' ⟨k1, k2, y, rfl⟩
  exact ⟨k1, k2, Frm.set⟩
theorem AVu {id : Nat} {B : List Bool} {o : TV} {l : List UInt8} {most win : Int} {J : Option Nat} {T : List (Int × Int)} {H : List Ob} (h : AzL H id B o l most win J) (hT : ADO T) (hT0 : 0 < T.length) :
  Azs Tryd.prog 48 [.op id 0 [], ANT T] H
  (fun y H' => Frm id none H H' ∧ H'.length = H.length ∧ ∃ s B', AKV T 0 B = some (s, B') ∧ y = i64 (s : Int) ∧ AzL H' id B' o l most win J)
  (fun u H' => AKV T 0 B = none ∧ u = AUB 10 ∧ Frm id none H H') := by
 have hlt := h.lt
 obtain ⟨inn, held, count, rfl, h1, h2, h3, h4⟩ := h.ob
 refine (A4E h4 hT hT0 h1 h2 h3).mono ?_ ?_
 ·rintro x H' ⟨s, inn', held', count', k1, k2, rfl, k4, k5, k6⟩
  exact ⟨Frm.set, by simp, s, _, k1, k2, ⟨inn', held', count', rfl, by omega, k5, k6, by simp [hlt]⟩, h.row.set h.ne, h.ne, h.len⟩
 ·rintro u H' ⟨k1, k2, y, rfl⟩
  exact ⟨k1, k2, Frm.set⟩
theorem A92 {id : Nat} {B : List Bool} {o : TV} {l : List UInt8} {most win : Int} {b : UInt8} {J : Option Nat} {H : List Ob} (h : AzL H id B o l most win J) (hm : -9223372036854775808 ≤ most ∧ most ≤ 1000000) :
  Azs Tryd.prog 25 [.op id 0 [], by8 b] H
  (fun x H' => (l.length : Int) < most ∧ Frm id J H H' ∧ ∃ o' j, Jn J (some j) H ∧ AzL H' id B o' (l ++ [b]) most win (some j))
  (fun u H' => most ≤ (l.length : Int) ∧ u = AUB 11 ∧ H' = H) := by
 have hlt := h.lt
 have hlen := h.len
 obtain ⟨inn, held, count, rfl, h1, h2, h3, h4⟩ := h.ob
 refine (BcY h4 h.row h.ne h.len (by omega)).mono ?_ ?_
 ·rintro x H' ⟨k1, o', j, k2, k3, k4, k5, k6, k7⟩
  refine ⟨k1, ⟨k7, k6⟩, o', j, ?_, ⟨inn, held, count, rfl, h1, h2, h3, k2⟩, k3, by simpa using k4, by simp; omega⟩
  rcases k5 with e | e
  ·exact .inl e.symm
  ·exact .inr fun j2 h2 => by cases h2; exact e
 ·rintro u H' ⟨k1, k2, k3⟩
  exact ⟨k1, k2, k3⟩
theorem AVS (n : Nat) (B : List Bool) : ACP (B.take n) < 2 ^ n := by
 have h1 := AVc (B.take n)
 have h2 : (B.take n).length ≤ n := by rw [List.length_take]; omega
 have h3 : 2 ^ (B.take n).length ≤ 2 ^ n := Nat.pow_le_pow_right (by omega) h2
 omega
/-- The same bytes again. -/
theorem BaR {id n far : Nat} {t1 t2 : TV} {B : List Bool} {l : List UInt8} {o : TV} {most win : Int} {J : Option Nat} {H : List Ob} {Q : VEx → Env → List Ob → Prop} (hst : AzL H id B o l most win J) (hm : -9223372036854775808 ≤ most ∧ most ≤ 1000000) (hn : n ≤ 3000) (hf0 : 1 ≤ far) (hf : far ≤ l.length)
  (hok : ∀ l' J' o' H' y, AO9 most far n l = some l' → AzL H' id B o' l' most win J' → Jn J J' H → Frm id J H H' → Q .nor [(0, .op id 0 []), (1, t1), (2, t2), (9, i64 (far : Int)), (67, i64 (n : Int)), (68, i64 (n : Int)), (69, y)] H')
  (herr : ∀ H', AO9 most far n l = none → Frm id J H H' → ∀ e, Q (.pan (AUB 11)) e H') :
  vwp Tryd.prog (.loop [0, 1, 2, 9, 67, 68] AzM) (Blk 3 Q) [(0, .op id 0 []), (1, t1), (2, t2), (9, i64 (far : Int)), (67, i64 (n : Int)), (68, i64 ((0 : Nat) : Int))] H := by
 refine Azr (fun q e H' => ∃ k : Nat, q = n - k ∧ k ≤ n ∧ e = [(0, .op id 0 []), (1, t1), (2, t2), (9, i64 (far : Int)), (67, i64 (n : Int)), (68, i64 (k : Int))] ∧ Frm id J H H' ∧
  ∃ l' J' o', AO9 most far n l = AO9 most far (n - k) l' ∧ far ≤ l'.length ∧ AzL H' id B o' l' most win J' ∧ Jn J J' H) n ?_ ?_
 ·exact ⟨0, rfl, by omega, rfl, Frm.refl, l, J, o, rfl, hf, hst, Jn.refl⟩
 ·rintro q e H' ⟨k, rfl, hk, rfl, hfr, l', J', o', c1, c2, hs, hj⟩
  by_cases hlt : k < n
  ·obtain ⟨inn, held, count, _, _, _, _, ho⟩ := hs.ob
   have hlen := hs.len
   obtain ⟨b, hb⟩ : ∃ b, l'[l'.length - far]? = some b := ⟨_, List.getElem?_eq_getElem (by omega)⟩
   have hstep : AO9 most far (n - k) l' = if most ≤ (l'.length : Int) then none else AO9 most far (n - (k + 1)) (l' ++ [b]) := by
    rw [show n - k = (n - (k + 1)) + 1 by omega, AO9, hb]; rfl
   have hrow := hs.row
   cases J' with
   | none =>
    obtain ⟨rfl, rfl⟩ := hrow
    simp at c2; omega
   | some j =>
    obtain ⟨v, rfl, hjo⟩ := hrow
    simp -dsimp (disch := first | assumption | omega | (simp only [AyC]; done) | (simp only [AyC]; omega)) only [↓AyE, AyB, AyG, AyF, eq_self, Nat.reduceEqDiff, ↓reduceIte, Nat.reduceAdd, reduceCtorEq, ↓AyK, ho, hjo, hb]
    refine (A92 hs hm).callsP ?_ ?_
    ·rintro x H2 ⟨k1, k2, o2, j2, k3, k4⟩
     rw [if_neg (by omega)] at hstep
     simp -dsimp (disch := first | assumption | omega | (simp only [AyC]; done) | (simp only [AyC]; omega)) only [↓AyE, AyB, AyG, AyF, eq_self, Nat.reduceEqDiff, ↓reduceIte, reduceCtorEq]
     exact AyL (n - (k + 1)) (by omega) (by have := hfr.1; have := k2.1; omega) ⟨k + 1, rfl, by omega, rfl, hfr.trans hj k2, l' ++ [b], some j2, o2, by rw [c1, hstep], by simp; omega, k4, Jn.trans hfr hj k3⟩
    ·rintro u H2 ⟨k1, rfl, rfl⟩
     rw [if_pos k1] at hstep
     exact herr _ (by rw [c1, hstep]) hfr _
  ·have hkn : k = n := by omega
   subst hkn
   rw [Nat.sub_self, AO9] at c1
   simp -dsimp (disch := first | assumption | omega | (simp only [AyC]; done) | (simp only [AyC]; omega)) only [↓AyE, AyB, AyG, AyF, eq_self, Nat.reduceEqDiff, ↓reduceIte, reduceCtorEq, ↓AyK]
   exact hok l' J' o' H' _ c1 hs hj hfr
set_option maxHeartbeats 1000000 in
theorem A85 {id : Nat} {B : List Bool} {o : TV} {l : List UInt8} {most win : Int} {J : Option Nat} {T T2 : List (Int × Int)} {H : List Ob} (fuel : Nat) (hst : AzL H id B o l most win J) (hfu : B.length < fuel) (hT : ADO T) (hT0 : 0 < T.length) (hT2 : ADO T2) (hT20 : 0 < T2.length) (hr : A13 (AKV T 0)) (hsym : ∀ B y B1, AKV T 0 B = some (y, B1) → y ≤ 100000) (hsym2 : ∀ B y B1, AKV T2 0 B = some (y, B1) → y ≤ 100000) (hr2 : A13 (AKV T2 0)) (hm : -9223372036854775808 ≤ most ∧ most ≤ 1000000) (hw : -9223372036854775808 ≤ win ∧ win ≤ 9223372036854775807) :
  Azs Tryd.prog 27 [.op id 0 [], ANT T, ANT T2] H
  (fun x H' => Frm id J H H' ∧ ∃ B' l' o' J', ASX (AKV T 0) (AKV T2 0) most win fuel B l = .ok (B', l') ∧ AzL H' id B' o' l' most win J' ∧ Jn J J' H)
  (fun u H' => Frm id J H H' ∧ ∃ e, ASX (AKV T 0) (AKV T2 0) most win fuel B l = .error e ∧ u = AUB e) := by
 obtain ⟨R, hR⟩ : ∃ R, R = ASX (AKV T 0) (AKV T2 0) most win fuel B l := ⟨_, rfl⟩
 rw [← hR]
 refine AIv (by simp) ?_
 simp -dsimp (disch := first | assumption | omega | (simp only [AyC]; done) | (simp only [AyC]; omega)) only [↓AyE, AyG, AyF, Nat.reduceAdd, ↓AyK]
 refine Azr (fun q e H' => ∃ B1 o1 l1 J1, e = [(0, .op id 0 []), (1, ANT T), (2, ANT T2)] ∧ Frm id J H H' ∧ B1.length < q ∧ R = ASX (AKV T 0) (AKV T2 0) most win q B1 l1 ∧ AzL H' id B1 o1 l1 most win J1 ∧ Jn J J1 H) fuel ?_ ?_
 ·exact ⟨B, o, l, J, rfl, Frm.refl, hfu, hR, hst, Jn.refl⟩
 ·rintro q e H' ⟨B1, o1, l1, J1, rfl, hfr, hq, hR1, hs, hj⟩
  obtain ⟨f, rfl⟩ : ∃ f', q = f' + 1 := ⟨q - 1, by omega⟩
  rw [ASX] at hR1
  have hl0 := hfr.1
  simp -dsimp (disch := first | assumption | omega | (simp only [AyC]; done) | (simp only [AyC]; omega)) only [↓AyE, AyB, AyG, AyF, eq_self, Nat.reduceEqDiff, ↓reduceIte, reduceCtorEq, ↓AyK]
  refine (AVu hs hT hT0).callsP ?_ ?_
  case refine_2 =>
   rintro u H2 ⟨k1, rfl, k3⟩
   rw [k1] at hR1
   exact ⟨hfr.trans hj k3.weak, 10, hR1, rfl⟩
  rintro x H2 ⟨f2, l2, y, B2, k1, rfl, s2⟩
  have hyl := hsym _ _ _ k1
  have hB2 := hr _ _ _ k1
  rw [k1] at hR1
  simp only at hR1
  have hfr2 : Frm id J H H2 := hfr.trans hj f2.weak
  have hl2 := hfr2.1
  by_cases hy : y < 256
  ·rw [if_pos hy] at hR1
   simp -dsimp (disch := first | assumption | omega | (simp only [AyC]; done) | (simp only [AyC]; omega)) only [↓AyE, AyB, AyG, AyF, eq_self, Nat.reduceEqDiff, ↓reduceIte, reduceCtorEq, ↓AyK]
   refine (A92 (b := UInt8.ofNat y) s2 hm).callsP ?_ ?_
   ·rintro x H3 ⟨k1, k2, o3, j3, k3, k4⟩
    rw [if_neg (by omega)] at hR1
    have := k2.1
    simp -dsimp (disch := first | assumption | omega | (simp only [AyC]; done) | (simp only [AyC]; omega)) only [↓AyE, AyB, AyG, AyF, eq_self, Nat.reduceEqDiff, ↓reduceIte, reduceCtorEq]
    exact AyL f (by omega) (by omega) ⟨B2, o3, _, some j3, rfl, hfr2.trans hj k2, by omega, hR1, k4, Jn.trans hfr2 hj k3⟩
   ·rintro u H3 ⟨k1, rfl, rfl⟩
    rw [if_pos k1] at hR1
    exact ⟨hfr2, 11, hR1, rfl⟩
  rw [if_neg hy] at hR1
  by_cases hy2 : y = 256
  ·subst hy2
   rw [if_pos rfl] at hR1
   simp -dsimp (disch := first | assumption | omega | (simp only [AyC]; done) | (simp only [AyC]; omega)) only [↓AyE, AyB, AyG, AyF, eq_self, Nat.reduceLT, Nat.reduceEqDiff, ↓reduceIte, reduceCtorEq, ↓AyK]
   exact ⟨hfr2, B2, l1, o1, J1, hR1, s2, hj⟩
  rw [if_neg hy2] at hR1
  by_cases hy3 : 285 < y
  ·rw [if_pos hy3] at hR1
   simp -dsimp (disch := first | assumption | omega | (simp only [AyC]; done) | (simp only [AyC]; omega)) only [↓AyE, AyB, AyG, AyF, eq_self, Nat.reduceEqDiff, ↓reduceIte, reduceCtorEq, ↓AyK]
   exact ⟨hfr2, 10, hR1, rfl⟩
  rw [if_neg hy3] at hR1
  have hy4 : 257 ≤ y ∧ y ≤ 285 := by omega
  simp -dsimp (disch := first | assumption | omega | (simp only [AyC]; done) | (simp only [AyC]; omega)) only [↓AyE, AyB, AyG, AyF, eq_self, Nat.reduceEqDiff, ↓reduceIte, reduceCtorEq, ↓AyK]
  refine (AQ3 y hy4).calls rfl ?_
  rintro _ rfl
  have hlp : (if y = 285 then (258, 0) else Azg 3 4 (y - 257)) = AET y := rfl
  rw [hlp]
  have hlb : (AET y).1 ≤ 1000 ∧ (AET y).2 ≤ 10 ∧ 1 ≤ (AET y).1 := by
   unfold AET
   split
   ·simp
   ·have := A0N (y - 257) (by omega)
    rw [A00 (y - 257) (by omega)] at this
    refine ⟨this.1, this.2, ?_⟩
    unfold Azg; split <;> simp only <;> omega
  obtain ⟨hlb1, hlb2, hlb3⟩ := hlb
  rw [A9x] at hR1
  simp -dsimp (disch := first | assumption | omega | (simp only [AyC]; done) | (simp only [AyC]; omega)) only [↓AyE, AyB, AyG, AyF, eq_self, Nat.reduceEqDiff, ↓reduceIte, Nat.reduceAdd, reduceCtorEq, ↓AyK]
  have hid2 := s2.lt
  have hJ2 : ∀ j, J1 = some j → j < H2.length := fun j hj => s2.jlt hj
  obtain ⟨X, hX⟩ : ∃ X, X = H2.length := ⟨_, rfl⟩
  have hXl : (H2 ++ [Ob.obj 0 (spn (AET y))])[X]? = some (Ob.obj 0 (spn (AET y))) := by rw [hX, List.getElem?_append_right (Nat.le_refl _)]; simp
  have hfr2' : Frm id J H (H2 ++ [Ob.obj 0 (spn (AET y))]) := hfr2.trans (J' := J1) hj ⟨by simp, fun i hi _ _ => List.getElem?_append_left hi⟩
  refine (AQN (s2.app (G := [Ob.obj 0 (spn (AET y))])) (n := (AET y).2) (by omega)).callsP ?_ ?_
  case refine_2 =>
   rintro u H3 ⟨k1, rfl, k3⟩
   rw [if_pos k1] at hR1
   exact ⟨hfr2'.trans hj k3.weak, 10, hR1, rfl⟩
  rintro x H3 ⟨f3, l3, k1, rfl, s3⟩
  rw [if_neg (by omega)] at hR1
  have hl3 : H3.length = H2.length + 1 := by rw [l3]; simp
  have hX3 : H3[X]? = some (Ob.obj 0 (spn (AET y))) := by rw [f3.2 X (by simp; omega) (by omega) (by simp)]; exact hXl
  have hfr3 : Frm id J H H3 := hfr2'.trans hj f3.weak
  refine ⟨?_, ?_⟩
  case refine_2 =>
   change AOa [29, 32] _ _ _
   intro s hs j ver p hg
   simp only [List.mem_cons, List.not_mem_nil, or_false] at hs
   rcases hs with rfl | rfl <;>
   ·simp [get] at hg
    obtain ⟨rfl, _⟩ := hg
    rw [← hX, hX3, hXl]
  obtain ⟨n2, hn2⟩ : ∃ n2, n2 = ACP (B2.take (AET y).2) := ⟨_, rfl⟩
  rw [← hn2]
  have hn2l : n2 ≤ 1024 := by
   have h1 := AVS (AET y).2 B2
   rw [← hn2] at h1
   have h3 : 2 ^ (AET y).2 ≤ 2 ^ 10 := Nat.pow_le_pow_right (by omega) hlb2
   omega
  simp -dsimp (disch := first | assumption | omega | (simp only [AyC]; done) | (simp only [AyC]; omega)) only [↓AyE, AyB, AyG, AyF, eq_self, Nat.reduceEqDiff, ↓reduceIte, reduceCtorEq]
  refine (AVu s3 hT2 hT20).callsP ?_ ?_
  case refine_2 =>
   rintro u H4 ⟨k1, rfl, k3⟩
   rw [k1] at hR1
   exact ⟨hfr3.trans hj k3.weak, 10, hR1, rfl⟩
  rintro x H4 ⟨f4, l4, d, B3, k2, rfl, s4⟩
  have hdl := hsym2 _ _ _ k2
  have hB3 := hr2 _ _ _ k2
  rw [k2] at hR1
  simp only at hR1
  have hfr4 : Frm id J H H4 := hfr3.trans hj f4.weak
  by_cases hd29 : 29 < d
  ·rw [if_pos hd29] at hR1
   simp -dsimp (disch := first | assumption | omega | (simp only [AyC]; done) | (simp only [AyC]; omega)) only [↓AyE, AyB, AyG, AyF, eq_self, Nat.reduceEqDiff, ↓reduceIte, reduceCtorEq, ↓AyK]
   exact ⟨hfr4, 10, hR1, rfl⟩
  rw [if_neg hd29] at hR1
  have hd4 : d ≤ 29 := by omega
  have hX4 : H4[X]? = some (Ob.obj 0 (spn (AET y))) := by rw [f4.2 X (by omega) (by omega) (by simp)]; exact hX3
  simp -dsimp (disch := first | assumption | omega | (simp only [AyC]; done) | (simp only [AyC]; omega)) only [↓AyE, AyB, AyG, AyF, eq_self, Nat.reduceEqDiff, ↓reduceIte, reduceCtorEq, ↓AyK]
  refine (AOt d hd4).calls rfl ?_
  rintro _ rfl
  obtain ⟨hpb1, hpb2⟩ := AWI d (by omega)
  rw [AZA d (by omega)] at hpb1 hpb2
  have hpb3 : 1 ≤ (Azg 1 2 d).1 := by unfold Azg; split <;> simp only <;> omega
  rw [← hX]
  simp -dsimp (disch := first | assumption | omega | (simp only [AyC]; done) | (simp only [AyC]; omega)) only [↓AyE, AyB, AyG, AyF, eq_self, Nat.reduceEqDiff, ↓reduceIte, Nat.reduceAdd, reduceCtorEq, ↓AyK, hX4]
  have hXl4 : X < H4.length := (List.getElem?_eq_some_iff.1 hX4).1
  have s4' : AzL (H4.set X (Ob.obj 0 (spn (Azg 1 2 d)))) id B3 o1 l1 most win J1 := s4.set (by omega) (fun e => by have := hJ2 _ e; omega)
  have hXs : (H4.set X (Ob.obj 0 (spn (Azg 1 2 d))))[X]? = some (Ob.obj 0 (spn (Azg 1 2 d))) := by simp [hXl4]
  have hfr4' : Frm id J H (H4.set X (Ob.obj 0 (spn (Azg 1 2 d)))) := ⟨by have := hfr4.1; simp; omega, fun i hi h1 h2 => by rw [List.getElem?_set_ne (by omega)]; exact hfr4.2 i hi h1 h2⟩
  refine (AQN s4' (n := (Azg 1 2 d).2) (by omega)).callsP ?_ ?_
  case refine_2 =>
   rintro u H5 ⟨k3, rfl, k4⟩
   rw [if_pos k3] at hR1
   exact ⟨hfr4'.trans hj k4.weak, 10, hR1, rfl⟩
  rintro x H5 ⟨f5, l5, k3, rfl, s5⟩
  rw [if_neg (by omega)] at hR1
  have hfr5 : Frm id J H H5 := hfr4'.trans hj f5.weak
  refine ⟨?_, ?_⟩
  case refine_2 =>
   change AOa [44, 47] _ _ _
   intro s hs j ver p hg
   simp only [List.mem_cons, List.not_mem_nil, or_false] at hs
   rcases hs with rfl | rfl <;>
   ·simp [get] at hg
    obtain ⟨rfl, _⟩ := hg
    exact f5.2 X (by simpa using hXl4) (by omega) (by simp)
  obtain ⟨n4, hn4⟩ : ∃ n4, n4 = ACP (B3.take (Azg 1 2 d).2) := ⟨_, rfl⟩
  rw [← hn4]
  rw [← hn4, ← hn2] at hR1
  simp only at hR1
  have hn4l : n4 ≤ 65536 := by
   have h1 := AVS (Azg 1 2 d).2 B3
   rw [← hn4] at h1
   have h3 : 2 ^ (Azg 1 2 d).2 ≤ 2 ^ 15 := Nat.pow_le_pow_right (by omega) hpb2
   omega
  obtain ⟨far, hfar⟩ : ∃ far, far = (Azg 1 2 d).1 + n4 := ⟨_, rfl⟩
  rw [← hfar] at hR1
  have hE : (((Azg 1 2 d).1 : Int) + (n4 : Int)) = (far : Int) := by omega
  have hlen5 := s5.len
  have hB5 : (B3.drop (Azg 1 2 d).2).length < f := by
   rw [List.length_drop]
   have := hB3
   rw [List.length_drop] at this
   omega
  obtain ⟨inn, held, count, _, _, _, _, ho5⟩ := s5.ob
  have hrow5 := s5.row
  cases J1 with
  | none =>
   obtain ⟨rfl, rfl⟩ := hrow5
   rw [if_pos (.inl (by simp; omega))] at hR1
   simp -dsimp (disch := first | assumption | omega | (simp only [AyC]; done) | (simp only [AyC]; omega)) only [↓AyE, AyB, AyG, AyF, eq_self, Nat.reduceEqDiff, ↓reduceIte, Nat.reduceAdd, reduceCtorEq, ho5, hE]
   exact ⟨hfr5, 10, hR1, rfl⟩
  | some j1 =>
   obtain ⟨v1, rfl, hjo⟩ := hrow5
   by_cases hfa : l1.length < far
   ·rw [if_pos (.inl hfa)] at hR1
    simp -dsimp (disch := first | assumption | omega | (simp only [AyC]; done) | (simp only [AyC]; omega)) only [↓AyE, AyB, AyG, AyF, eq_self, Nat.reduceEqDiff, ↓reduceIte, Nat.reduceAdd, reduceCtorEq, ho5, hE]
    exact ⟨hfr5, 10, hR1, rfl⟩
   by_cases hfw : win < (far : Int)
   ·rw [if_pos (.inr hfw)] at hR1
    simp -dsimp (disch := first | assumption | omega | (simp only [AyC]; done) | (simp only [AyC]; omega)) only [↓AyE, AyB, AyG, AyF, eq_self, Nat.reduceEqDiff, ↓reduceIte, Nat.reduceAdd, reduceCtorEq, ho5, hE]
    exact ⟨hfr5, 10, hR1, rfl⟩
   rw [if_neg (by omega)] at hR1
   have hl5 : H.length ≤ H5.length := hfr5.1
   simp -dsimp (disch := first | assumption | omega | (simp only [AyC]; done) | (simp only [AyC]; omega)) only [↓AyE, AyB, AyG, AyF, eq_self, Nat.reduceEqDiff, ↓reduceIte, Nat.reduceAdd, reduceCtorEq, ↓AyK, ho5, hE]
   refine BaR (n := (AET y).1 + n2) (far := far) s5 hm (by omega) (by omega) (by omega) ?_ ?_
   ·intro l' J' o' H6 yy c1 c2 c3 c4
    rw [c1] at hR1
    have hl6 := c4.1
    simp -dsimp (disch := first | assumption | omega | (simp only [AyC]; done) | (simp only [AyC]; omega)) only [↓AyE]
    exact AyL f (by omega) (by omega) ⟨_, o', l', J', rfl, hfr5.trans hj c4, hB5, hR1, c2, Jn.trans hfr5 hj c3⟩
   ·intro H6 c1 c4 _
    rw [c1] at hR1
    exact ⟨hfr5.trans hj c4, 11, hR1, rfl⟩
end Go.Proofs.YtfgljddikcghhaaDoor


namespace Go.Proofs.YtfgljddikcghhaaDoor
open Go.RowKit
variable [AyP]
set_option linter.unusedSectionVars false
set_option linter.unusedVariables false

variable {P : Program}
/-- A CALL THAT LEAVES NOTHING BEHIND, AND YIELDS NEW MEMORY ALONE, or ends in a panic. -/
def AJC (P : Program) (f : FuncId) (args : List TV) (R : TV → Prop) (RP : Value → Prop) : Prop :=
 ∀ (β : Nat → Nat → Option (Nat × Nat)) (F : Nat → Prop) (w : World) (vs : List Value), ((∀ b, F b → b < w.heap.size) ∧ AId F w) → Azf ⟨β, [], F⟩ w args vs →
  Calls P f vs.toArray w fun e w' => ∃ F', AKq F w F' w' ∧ ((∃ v x, e = .returned v ∧ R x ∧ Rep ⟨β, [], fun b => F' b ∧ w.heap.size ≤ b⟩ w' x v) ∨ ∃ u, e = .panicked [{ v := u, recovered := false }] ∧ RP u)
theorem AJC.mono {f : FuncId} {args : List TV} {R R' : TV → Prop} {RP RP' : Value → Prop} (h : AJC P f args R RP) (hr : ∀ x, R x → R' x) (hp : ∀ u, RP u → RP' u) : AJC P f args R' RP' :=
 fun β F w vs hF hv => (h β F w vs hF hv).mono fun _ _ ⟨F', h1, h2⟩ => ⟨F', h1, h2.imp (fun ⟨v, x, k1, k2, k3⟩ => ⟨v, x, k1, hr _ k2, k3⟩) fun ⟨u, k1, k2⟩ => ⟨u, k1, hp _ k2⟩⟩
theorem Azs.toFreshP {f : FuncId} {args : List TV} {R : TV → Prop} {RP : Value → Prop} (h : Azs P f args [] (fun x H' => match frs H' x with | some y => R y | none => False) fun u _ => RP u) : AJC P f args R RP := by
 intro β F w vs hF hv
 have hs : Sim ⟨β, [], F⟩ w := ⟨fun id o ho => by simp at ho, fun i j x y b o o' hx => by simp at hx, fun b hb => by obtain ⟨i, o, off, h1, _⟩ := hb; simp at h1, hF.1, hF.2⟩
 have hno : ∀ b, ¬ Ctx.own ⟨β, [], F⟩ b := fun b hb => by obtain ⟨i, o, off, h1, _⟩ := hb; simp at h1
 refine (h β F w vs hs hv).mono ?_
 rintro _ w' ⟨β', H', F', hs', hl, hc⟩
 have hnew : ∀ b, Ctx.own ⟨β', H', F'⟩ b → w.heap.size ≤ b := fun b hb => by
  rcases Nat.lt_or_ge b w.heap.size with h1 | h1
  ·exact absurd (hl.oldOwn b h1 hb) (hno b)
  ·exact h1
 refine ⟨fun b => F b ∨ Ctx.own ⟨β', H', F'⟩ b, ⟨hl.os, hl.tape, hl.output, hl.size, fun b hb => hl.same b hb (hno b), fun b hb => .inl hb, fun b hb hF' => hF'.elim id fun h => ?_, fun b hF' => hF'.elim (fun h => Nat.lt_of_lt_of_le (hF.1 b h) hl.size) hs'.own_lt⟩, ?_⟩
 ·have := hnew b h; omega
 ·rcases hc with ⟨v, x, rfl, hR, hx⟩ | ⟨u, rfl, hR⟩
  ·split at hR
   ·rename_i y hy
    have hr := AWh hs' hy hx
    exact .inl ⟨v, y, rfl, hR, Rep.mono (AD5.ofF (F := Ctx.own ⟨β', H', F'⟩) (F' := fun b => (F b ∨ Ctx.own ⟨β', H', F'⟩ b) ∧ w.heap.size ≤ b) fun b hb => ⟨.inr hb, hnew b hb⟩) hr⟩
   ·exact hR.elim
  ·exact .inr ⟨u, rfl, hR⟩
theorem Azs.toFreshPV {f : FuncId} {args : List TV} {R : TV → Prop} {RP : Value → Prop} (h : Azs P f args [] (fun x H' => Azu (frs H' x) R) fun u _ => RP u) : AJC P f args R RP :=
 Azs.toFreshP (h.mono (fun x H' hx => by
  cases hf : frs H' x with
  | none => rw [hf] at hx; exact hx
  | some y => rw [hf] at hx; exact hx) fun _ _ h => h)
theorem AJC.lendsP {f : FuncId} {args args' : List TV} {R : TV → Prop} {RP : Value → Prop} {H : List Ob} {K : TV → List Ob → Prop} {KP : Value → List Ob → Prop} (h : AJC P f args' R RP) (hp : A8e H args = some args') (hk : ∀ x, R x → K x H) (hkp : ∀ u, RP u → KP u H) : VCP P f args H K KP := by
 intro β F w vs hs hv
 refine (h β (fun b => F b ∨ Ctx.own ⟨β, H, F⟩ b) w vs ⟨fun b hb => hb.elim (hs.lt b) hs.own_lt, hs.glob.keep fun b hb => ⟨.inl hb, rfl⟩⟩ (ASW hs hp hv)).mono ?_
 rintro _ w' ⟨F', hst, hc⟩
 have hst' : AKq F w (fun b => F b ∨ (F' b ∧ w.heap.size ≤ b)) w' := ⟨hst.os, hst.tape, hst.output, hst.size, hst.same, fun _ h => .inl h, fun b hb h => h.elim id fun h => by omega, fun b hb => hb.elim (fun h => Nat.lt_of_lt_of_le (hs.lt b h) hst.size) fun h => hst.ltF b h.1⟩
 refine ⟨β, H, _, hst'.sim hs, hst'.later, ?_⟩
 rcases hc with ⟨v, x, rfl, hR, hx⟩ | ⟨u, rfl, hR⟩
 ·exact .inl ⟨v, x, rfl, hk x hR, Rep.mono (AD5.ofF (F := fun b => F' b ∧ w.heap.size ≤ b) (F' := fun b => F b ∨ (F' b ∧ w.heap.size ≤ b)) fun b hb => .inr hb) hx⟩
 ·exact .inr ⟨u, rfl, hkp u hR⟩

def AXG (x x' : TV) : Prop := ∀ (c : Ctx) (w : World) (v : Value), A0O c w x v → A0O c w x' v
inductive ASO : List TV → List TV → Prop
 | nil : ASO [] []
 | cons {x x' : TV} {xs xs' : List TV} : AXG x x' → ASO xs xs' → ASO (x :: xs) (x' :: xs')
theorem AXG.refl {x : TV} : AXG x x := fun _ _ _ h => h
theorem ASO.refl : ∀ {xs : List TV}, ASO xs xs
 | [] => .nil
 | _ :: _ => .cons AXG.refl ASO.refl
theorem ASO.rep {c : Ctx} {w : World} {xs xs' : List TV} (h : ASO xs xs') : ∀ {vs : List Value}, Azf c w xs vs → Azf c w xs' vs := by
 induction h with
 | nil => exact fun h => h
 | cons h1 h2 ih =>
  intro vs hv
  rw [Azf.cons] at hv ⊢
  obtain ⟨u, us, rfl, k1, k2⟩ := hv
  exact ⟨u, us, rfl, h1 _ _ _ k1, ih k2⟩
/-- No slice is an empty one. -/
theorem AV2 {k : Nat} : AXG (.val (.slice none 0 0)) (.sl k []) := fun c w v h => by
 have hv : v = .slice none 0 0 := by
  have h' : Rep c w (.val (.slice none 0 0)) v := .inl h
  rw [Rep.val] at h'; exact h'
 subst hv
 refine .inr (.inr ⟨[.slice none 0 0], ?_, rfl⟩)
 rw [AyH]
 exact ⟨by simp, .inl ⟨rfl, none, 0, rfl, by omega⟩⟩
theorem ABM.argL {f : FuncId} {args args' : List TV} {R : TV → Prop} (h : ABM P f args' R) (hc : ASO args args') : ABM P f args R :=
 fun β F w vs hF hv => h β F w vs hF (hc.rep hv)
/-- A result may be read in another way. -/
theorem ABM.conv {f : FuncId} {args : List TV} {R R' : TV → Prop} (h : ABM P f args R) (hc : ∀ x, R x → ∃ x', R' x' ∧ ∀ c w v, Rep c w x v → Rep c w x' v) : ABM P f args R' :=
 fun β F w vs hF hv => (h β F w vs hF hv).mono fun _ _ ⟨v, x, F', h1, h2, h3, h4⟩ => by
  obtain ⟨x', k1, k2⟩ := hc x h2
  exact ⟨v, x', F', h1, k1, k2 _ _ _ h3, h4⟩
end Go.Proofs.YtfgljddikcghhaaDoor


namespace Go.Proofs.YtfgljddikcghhaaDoor
open Go.RowKit
variable [AyP]
set_option linter.unusedSectionVars false
set_option linter.unusedVariables false
set_option linter.unusedSimpArgs false

abbrev ASd (l : List Nat) (n : Nat) : Ob := .obj 0 (.arr n 1 (l.map fun (n : Nat) => i64 (n : Int)))
/-- The counts. -/
def A2A (ls : List Nat) (L : List Nat) : Prop := L.length = 16 ∧ ∀ n, n < 16 → L[n]? = some (ls.count n)
theorem A7n {ls : List Nat} {few non : TV} (hl : ls.length ≤ 1000) (h15 : ∀ n ∈ ls, n ≤ 15) {Q : VEx → Env → List Ob → Prop}
  (hq : ∀ L y, A2A ls L → Q .nor [(0, AKD ls), (1, few), (2, non), (7, .op 0 0 []), (18, AKD ls), (19, i64 (ls.length : Int)), (20, i64 (ls.length : Int)), (21, y)] [ASd L 16]) :
  vwp Tryd.prog (.loop [0, 1, 2, 7, 18, 19, 20] ADI) (Blk 0 Q) [(0, AKD ls), (1, few), (2, non), (7, .op 0 0 []), (18, AKD ls), (19, i64 (ls.length : Int)), (20, i64 ((0 : Nat) : Int))] [ASd (List.replicate 16 0) 16] := by
 refine Azr (fun q e H => ∃ (i : Nat) (L : List Nat), q = ls.length - i ∧ i ≤ ls.length ∧ e = [(0, AKD ls), (1, few), (2, non), (7, .op 0 0 []), (18, AKD ls), (19, i64 (ls.length : Int)), (20, i64 (i : Int))] ∧ A2A (ls.take i) L ∧ H = [ASd L 16]) ls.length ?_ ?_
 ·refine ⟨0, List.replicate 16 0, rfl, by omega, rfl, ⟨rfl, fun n hn => ?_⟩, rfl⟩
  rw [List.getElem?_replicate, if_pos hn]; simp
 ·rintro q e H ⟨i, L, rfl, hi, rfl, ⟨hL1, hL2⟩, rfl⟩
  by_cases hlt : i < ls.length
  ·obtain ⟨n, hn⟩ : ∃ n, ls[i]? = some n := ⟨_, List.getElem?_eq_getElem hlt⟩
   have hn15 := h15 n (List.mem_of_getElem? hn)
   have hLn := hL2 n (by omega)
   have hcl : (ls.take i).count n ≤ 1000 := Nat.le_trans List.count_le_length (by rw [List.length_take]; omega)
   have htk : ls.take (i + 1) = ls.take i ++ [n] := by rw [List.take_add_one, hn]; rfl
   simp -dsimp (disch := first | assumption | omega | (simp only [AyC]; done) | (simp only [AyC]; omega)) only [↓AyE, AyB, AyG, AyF, eq_self, Nat.reduceEqDiff, ↓reduceIte, reduceCtorEq, ↓Ay3, hn, hLn]
   refine AyL (ls.length - (i + 1)) (by omega) (by simp) ⟨i + 1, L.set n ((ls.take i).count n + 1), rfl, by omega, rfl, ⟨by simp [hL1], fun k hk => ?_⟩, by simp only [ASd, List.map_set]⟩
   rw [htk, List.count_append]
   by_cases hkn : k = n
   ·subst hkn
    rw [List.getElem?_set_self (by omega)]; simp
   ·rw [List.getElem?_set_ne (Ne.symm hkn), hL2 k hk]
    have : List.count k [n] = 0 := by rw [List.count_eq_zero]; simpa using hkn
    rw [this]; rfl
  ·have hil : i = ls.length := by omega
   subst hil
   rw [List.take_length] at hL2
   simp -dsimp (disch := first | assumption | omega | (simp only [AyC]; done) | (simp only [AyC]; omega)) only [↓AyE, AyB, AyG, AyF, eq_self, Nat.reduceEqDiff, ↓reduceIte, reduceCtorEq, ↓Ay3]
   exact hq L _ ⟨hL1, hL2⟩
section
omit [AyP]
theorem count_le (ls : List Nat) (n : Nat) : ls.count n ≤ ls.length := List.count_le_length
theorem ASF (ls : List Nat) : ∀ n, AEf ls n → ACV ls n ≤ ((2 ^ n : Nat) : Int)
 | 0, _ => by simp [ACV]
 | n + 1, h => by
  have := ASF ls n fun k hk => h k (by omega)
  rw [ACV, Nat.pow_succ]
  push_cast at this ⊢
  omega
theorem ASw (ls : List Nat) (hl : ls.length ≤ 1000) : ∀ n, AIK ls n ≤ 1000 * n
 | 0 => by simp [AIK]
 | n + 1 => by
  have := ASw ls hl n
  have := count_le ls (n + 1)
  rw [AIK]; omega
end
theorem BbI {ls L : List Nat} {few non : TV} (hl : ls.length ≤ 1000) (hL : A2A ls L) {Q : VEx → Env → List Ob → Prop}
  (hq : ∀ y, AEf ls 15 → Q .nor [(0, AKD ls), (1, few), (2, non), (7, .op 0 0 []), (10, i64 (ACV ls 15)), (11, i64 (AIK ls 15 : Int)), (12, i64 ((16 : Nat) : Int)), (31, y)] [ASd L 16])
  (hp : ¬ AEf ls 15 → ∀ e H, Q (.pan (AUB 10)) e H) :
  vwp Tryd.prog (.loop [0, 1, 2, 7, 10, 11, 12] ADF) (Blk 2 Q) [(0, AKD ls), (1, few), (2, non), (7, .op 0 0 []), (10, i64 ((1 : Nat) : Int)), (11, i64 ((0 : Nat) : Int)), (12, i64 ((1 : Nat) : Int))] [ASd L 16] := by
 refine Azr (fun q e H => ∃ n : Nat, q = 15 - n ∧ n ≤ 15 ∧ AEf ls n ∧ e = [(0, AKD ls), (1, few), (2, non), (7, .op 0 0 []), (10, i64 (ACV ls n)), (11, i64 (AIK ls n : Int)), (12, i64 ((n + 1 : Nat) : Int))] ∧ H = [ASd L 16]) 15 ?_ ?_
 ·exact ⟨0, rfl, by omega, fun k hk => by rw [Nat.le_zero.1 hk]; simp [ACV], rfl, rfl⟩
 ·rintro q e H ⟨n, rfl, hn, hok, rfl, rfl⟩
  by_cases hlt : n < 15
  ·have hLn := hL.2 (n + 1) (by omega)
   have hL1 := hL.1
   have hc := count_le ls (n + 1)
   have h0 := hok n (Nat.le_refl _)
   have h1 := ASF ls n hok
   have h2 := ASw ls hl n
   have h3 : 2 ^ n ≤ 2 ^ 15 := Nat.pow_le_pow_right (by omega) (by omega)
   obtain ⟨m, hm⟩ : ∃ m : Nat, ACV ls n = (m : Int) := ⟨(ACV ls n).toNat, by omega⟩
   have hml : m ≤ 32768 := by omega
   have hstep : ACV ls (n + 1) = (m : Int) * ((2 : Nat) : Int) - (ls.count (n + 1) : Int) := by rw [ACV, hm]; rfl
   by_cases hneg : ls.count (n + 1) ≤ m * 2
   ·have hcast : ((m * 2 : Nat) : Int) - (ls.count (n + 1) : Int) = ((m * 2 - ls.count (n + 1) : Nat) : Int) := by omega
    have hnew : ACV ls (n + 1) = ((m * 2 - ls.count (n + 1) : Nat) : Int) := by rw [hstep, ← hcast]; push_cast; rfl
    rw [hm]
    simp -dsimp (disch := first | assumption | omega | (simp only [AyC]; done) | (simp only [AyC]; omega)) only [↓AyE, AyB, AyG, AyF, eq_self, Nat.reduceEqDiff, ↓reduceIte, reduceCtorEq, ↓Ay3, hLn]
    refine AyL (15 - (n + 1)) (by omega) (by simp) ⟨n + 1, rfl, by omega, fun k hk => ?_, ?_, rfl⟩
    ·by_cases e : k = n + 1
     ·rw [e, hnew]; omega
     ·exact hok k (by omega)
    ·rw [hnew, AIK]; rfl
   ·have hneg2 : m * 2 < ls.count (n + 1) := by omega
    have hnl : ¬ AEf ls 15 := fun h => by
     have := h (n + 1) (by omega)
     rw [hstep] at this
     push_cast at this
     omega
    rw [hm]
    simp -dsimp (disch := first | assumption | omega | (simp only [AyC]; done) | (simp only [AyC]; omega)) only [↓AyE, AyB, AyG, AyF, eq_self, Nat.reduceEqDiff, ↓reduceIte, reduceCtorEq, ↓Ay3, hLn]
    exact hp hnl _ _
  ·have hn15 : n = 15 := by omega
   subst hn15
   simp -dsimp (disch := first | assumption | omega | (simp only [AyC]; done) | (simp only [AyC]; omega)) only [↓AyE, AyB, AyG, AyF, eq_self, Nat.reduceLT, Nat.reduceEqDiff, ↓reduceIte, Nat.reduceAdd, reduceCtorEq, ↓Ay3]
   exact hq _ hok
/-- Where the codes begin. -/
def A6H (ls : List Nat) (m : Nat) (M : List Nat) : Prop := M.length = 17 ∧ ∀ n, n ≤ m → M[n]? = some (stN ls n)
theorem BbD {ls L : List Nat} (hl : ls.length ≤ 1000) (hL : A2A ls L) (hok : AEf ls 15) {Q : VEx → Env → List Ob → Prop}
  (hq : ∀ M y, A6H ls 16 M → Q .nor [(0, AKD ls), (7, .op 0 0 []), (13, .op 1 0 []), (14, i64 ((16 : Nat) : Int)), (73, y)] [ASd L 16, ASd M 17]) :
  vwp Tryd.prog (.loop [0, 7, 13, 14] ADQ) (Blk 4 Q) [(0, AKD ls), (7, .op 0 0 []), (13, .op 1 0 []), (14, i64 ((1 : Nat) : Int))] [ASd L 16, ASd (List.replicate 17 0) 17] := by
 refine Azr (fun q e H => ∃ (n : Nat) (M : List Nat), q = 15 - n ∧ n ≤ 15 ∧ e = [(0, AKD ls), (7, .op 0 0 []), (13, .op 1 0 []), (14, i64 ((n + 1 : Nat) : Int))] ∧ A6H ls (n + 1) M ∧ H = [ASd L 16, ASd M 17]) 15 ?_ ?_
 ·refine ⟨0, List.replicate 17 0, rfl, by omega, rfl, ⟨rfl, fun n hn => ?_⟩, rfl⟩
  rw [List.getElem?_replicate, if_pos (by omega)]
  have : n = 0 ∨ n = 1 := by omega
  rcases this with rfl | rfl <;> rfl
 ·rintro q e H ⟨n, M, rfl, hn, rfl, ⟨hM1, hM2⟩, rfl⟩
  by_cases hlt : n < 15
  ·have hLn := hL.2 (n + 1) (by omega)
   have hL1 := hL.1
   have hMn := hM2 (n + 1) (Nat.le_refl _)
   obtain ⟨_, hb⟩ := AWv ls hok (n + 1) (by omega)
   have hb2 := hb (by omega) (by omega)
   have h3 : 2 ^ (n + 1) ≤ 2 ^ 15 := Nat.pow_le_pow_right (by omega) (by omega)
   obtain ⟨w, hw⟩ : ∃ w, M[n + 1 + 1]? = some w := ⟨_, List.getElem?_eq_getElem (by omega)⟩
   have hsh : (stN ls (n + 1) + ls.count (n + 1)) * 2 ^ 1 ≤ 9223372036854775807 := by omega
   simp -dsimp (disch := first | assumption | omega | (simp only [AyC]; done) | (simp only [AyC]; omega)) only [↓AyE, AyB, AyG, AyF, eq_self, Nat.reduceEqDiff, Nat.reducePow, ↓reduceIte, Nat.reduceAdd, reduceCtorEq, ↓Ay3, hLn, hMn, hw]
   refine AyL (15 - (n + 1)) (by omega) (by simp) ⟨n + 1, M.set (n + 1 + 1) ((stN ls (n + 1) + ls.count (n + 1)) * 2), rfl, by omega, rfl, ⟨by simp [hM1], fun k hk => ?_⟩, by simp only [ASd, List.map_set]⟩
   by_cases hkn : k = n + 1 + 1
   ·subst hkn
    rw [List.getElem?_set_self (by omega), stN]
   ·rw [List.getElem?_set_ne (Ne.symm hkn)]
    exact hM2 k (by omega)
  ·have hn15 : n = 15 := by omega
   subst hn15
   simp -dsimp (disch := first | assumption | omega | (simp only [AyC]; done) | (simp only [AyC]; omega)) only [↓AyE, AyB, AyG, AyF, eq_self, Nat.reduceLT, Nat.reduceEqDiff, ↓reduceIte, Nat.reduceAdd, reduceCtorEq, ↓Ay3]
   exact hq M _ ⟨hM1, hM2⟩
/-- The symbols one by one. -/
theorem Bc1 {ls L M : List Nat} (hl : ls.length ≤ 1000) (h15 : ∀ n ∈ ls, n ≤ 15) (hok : AEf ls 15) (hM : A6H ls 16 M) (hg : AX7 ls) {Q : VEx → Env → List Ob → Prop}
  (hq : ∀ H v y, H[3]? = some (.obj 0 (.os 2 2 v [] 0 (AAc ls ls.length).length (AAc ls ls.length).length)) → H[2]? = some (.obj v (.arr (AAc ls ls.length).length 2 ((AAc ls ls.length).map plc))) → Q .nor [(13, .op 1 0 []), (15, .op 3 0 []), (89, AKD ls), (90, i64 (ls.length : Int)), (91, i64 (ls.length : Int)), (92, y)] H) :
  vwp Tryd.prog (.loop [13, 15, 89, 90, 91] ADb) (Blk 6 Q) [(13, .op 1 0 []), (15, .op 3 0 []), (89, AKD ls), (90, i64 (ls.length : Int)), (91, i64 ((0 : Nat) : Int))] [ASd L 16, ASd M 17, .obj 0 (.arr 1 2 ([(0, 0)].map plc)), .obj 0 (.os 2 2 0 [] 0 1 1)] := by
 refine Azr (fun q e H => ∃ (i v : Nat) (M' : List Nat), q = ls.length - i ∧ i ≤ ls.length ∧ e = [(13, .op 1 0 []), (15, .op 3 0 []), (89, AKD ls), (90, i64 (ls.length : Int)), (91, i64 (i : Int))] ∧ M'.length = 17 ∧ (∀ n, n ≤ 15 → M'[n + 1]? = some (AAt ls (n + 1) i)) ∧
  H[1]? = some (ASd M' 17) ∧ H[3]? = some (.obj 0 (.os 2 2 v [] 0 (AAc ls i).length (AAc ls i).length)) ∧ H[2]? = some (.obj v (.arr (AAc ls i).length 2 ((AAc ls i).map plc))) ∧ 4 ≤ H.length) ls.length ?_ ?_
 ·refine ⟨0, 0, M, rfl, by omega, rfl, hM.1, fun n hn => ?_, rfl, rfl, rfl, by simp⟩
  rw [hM.2 (n + 1) (by omega)]
  simp [AAt]
 ·rintro q e H ⟨i, v, M', rfl, hi, rfl, hM1, hM2, h1, h3, h2, h4⟩
  by_cases hlt : i < ls.length
  ·obtain ⟨n, hn⟩ : ∃ n, ls[i]? = some n := ⟨_, List.getElem?_eq_getElem hlt⟩
   have hn15 := h15 n (List.mem_of_getElem? hn)
   have htk : ls.take (i + 1) = ls.take i ++ [n] := by rw [List.take_add_one, hn]; rfl
   cases n with
   | zero =>
    have hgt : AAc ls (i + 1) = AAc ls i := by rw [AAc, hn]
    simp -dsimp (disch := first | assumption | omega | (simp only [AyC]; done) | (simp only [AyC]; omega)) only [↓AyE, AyB, AyG, AyF, eq_self, Nat.reduceLT, Nat.reduceEqDiff, ↓reduceIte, Nat.reduceAdd, ↓Ay3, hn]
    refine AyL (ls.length - (i + 1)) (by omega) (by first | omega | (simp; omega)) ⟨i + 1, v, M', rfl, by omega, rfl, hM1, fun k hk => ?_, h1, by rw [hgt]; exact h3, by rw [hgt]; exact h2, h4⟩
    rw [hM2 k hk, AAt, AAt, htk, List.count_append]
    simp
   | succ n =>
    have hgt : AAc ls (i + 1) = AQv n (AAc ls i) 0 (AAt ls (n + 1) i) i := by rw [AAc, hn]
    have hMn := hM2 n (by omega)
    obtain ⟨_, hb⟩ := AWv ls hok (n + 1) (by omega)
    have hb2 := hb (by omega) (by omega)
    have hp3 : 2 ^ (n + 1) ≤ 2 ^ 15 := Nat.pow_le_pow_right (by omega) (by omega)
    have hcc : (ls.take i).count (n + 1) ≤ 1000 := Nat.le_trans List.count_le_length (by rw [List.length_take]; omega)
    have hcl : AAt ls (n + 1) i ≤ 100000 := by unfold AAt; omega
    have hgl := ATN ls h15 i
    simp -dsimp (disch := first | assumption | omega | (simp only [AyC]; done) | (simp only [AyC]; omega)) only [↓AyE, AyB, AyG, AyF, eq_self, Nat.reduceEqDiff, ↓reduceIte, ↓Ay3, hn, h1, hMn]
    refine AyW.mono (BcG h3 h2 (by omega) (by omega) (by omega) (by omega) (by omega) (hg i n hn)) ?_
    rintro x H2 ⟨v', k1, k2, k3, k4, _⟩
    have k5 : H2[1]? = some (ASd M' 17) := by rw [k3 1 (by omega) (by omega) (by omega)]; exact h1
    have k5l := (List.getElem?_eq_some_iff.1 k5).1
    simp -dsimp (disch := first | assumption | omega | (simp only [AyC]; done) | (simp only [AyC]; omega)) only [↓AyE, AyB, AyG, AyF, eq_self, Nat.reduceEqDiff, ↓reduceIte, Nat.reduceAdd, k5, hMn]
    refine AyL (ls.length - (i + 1)) (by omega) (by simp; omega) ⟨i + 1, v', M'.set (n + 1) (AAt ls (n + 1) i + 1), rfl, by omega, rfl, by simp [hM1], fun k hk => ?_, ?_, ?_, ?_, by simp; omega⟩
    ·by_cases hkn : k = n
     ·subst hkn
      rw [List.getElem?_set_self (by omega), AAt, AAt, htk, List.count_append]
      simp; omega
     ·rw [List.getElem?_set_ne (by omega), hM2 k hk, AAt, AAt, htk, List.count_append]
      have : List.count (k + 1) [n + 1] = 0 := by rw [List.count_eq_zero]; simpa using hkn
      rw [this]; rfl
    ·rw [List.getElem?_set_self k5l]; simp only [ASd, List.map_set]
    ·rw [hgt, List.getElem?_set_ne (by omega)]; exact k1
    ·rw [hgt, List.getElem?_set_ne (by omega)]; exact k2
  ·have hil : i = ls.length := by omega
   subst hil
   simp -dsimp (disch := first | assumption | omega | (simp only [AyC]; done) | (simp only [AyC]; omega)) only [↓AyE, AyB, AyG, AyF, eq_self, Nat.reduceEqDiff, ↓reduceIte, ↓Ay3]
   exact hq H v _ h3 h2
theorem A0c (T : List (Int × Int)) : AHq (T.map plc) = true := AZG _ _ fun p => by simp [ATj, AHq]
set_option maxHeartbeats 1000000 in
theorem Bap {ls : List Nat} {few non : Bool} (hl : ls.length ≤ 1000) (h15 : ∀ n ∈ ls, n ≤ 15) (hg : AEf ls 15 → AX7 ls) :
  AJC Tryd.prog 28 [AKD ls, tb few, tb non] (fun x => okP ls few non ∧ x = ANT (AAc ls ls.length)) (fun u => ¬ okP ls few non ∧ u = AUB 10) := by
 refine Azs.toFreshPV (ARe (by simp) ?_)
 simp -dsimp (disch := first | assumption | omega) only [↓AyE, AyB, AyG, AyF, eq_self, Nat.reduceEqDiff, ↓reduceIte, Nat.reduceAdd, reduceCtorEq, ↓Ay3]
 refine A7n hl h15 fun L y hL => ?_
 simp -dsimp (disch := first | assumption | omega) only [↓AyE, AyB, AyG, AyF, eq_self, Nat.reduceEqDiff, ↓reduceIte, reduceCtorEq, ↓Ay3]
 refine BbI hl hL (fun y hok => ?_) (fun hno _ H => ?_)
 case refine_2 => exact ⟨fun h => hno h.1, rfl⟩
 have h0 := hok 15 (Nat.le_refl _)
 have h1 := ASF ls 15 hok
 have h2 := ASw ls hl 15
 obtain ⟨m, hm⟩ : ∃ m : Nat, ACV ls 15 = (m : Int) := ⟨(ACV ls 15).toNat, by omega⟩
 obtain ⟨us, hus⟩ : ∃ us, us = AIK ls 15 := ⟨_, rfl⟩
 have hc1 := hL.2 1 (by omega)
 have hL1 := hL.1
 have good : okP ls few non → ∀ {y}, vwp Tryd.prog AC1 (ASc AIt (fun x H' => Azu (frs H' x) fun x => okP ls few non ∧ x = ANT (AAc ls ls.length)) (fun u _ => ¬ okP ls few non ∧ u = AUB 10)) [(0, AKD ls), (7, .op 0 0 []), (70, y)] [ASd L 16] := by
  intro hokP y
  simp -dsimp (disch := first | assumption | omega) only [↓AyE, AyB, AyG, AyF, eq_self, Nat.reduceEqDiff, ↓reduceIte, reduceCtorEq, ↓Ay3]
  refine BbD hl hL hok fun M y hM => ?_
  simp -dsimp (disch := first | assumption | omega) only [↓AyE, AyB, AyG, AyF, eq_self, Nat.reduceEqDiff, ↓reduceIte, Nat.reduceAdd, reduceCtorEq, Nat.reduceLeDiff, ↓Ay3]
  refine Bc1 hl h15 hok hM (hg hok) fun H v y k3 k2 => ?_
  simp -dsimp (disch := first | assumption | omega) only [↓AyE, AyB, AyG, AyF, eq_self, Nat.reduceEqDiff, ↓reduceIte, ↓Ay3, k3, k2, A0c]
  exact hokP
 rw [hm, ← hus]
 by_cases hm0 : m = 0
 ·have hokP : okP ls few non := ⟨hok, .inl (by omega)⟩
  have hmp : ¬ (0 < m) := by omega
  simp -dsimp (disch := first | assumption | omega) only [↓AyE, AyB, AyG, AyF, eq_self, Nat.reduceEqDiff, ↓reduceIte, reduceCtorEq, ↓AyV]
  exact good hokP
 have hmp : 0 < m := by omega
 have hbad : ¬ (few = true ∧ us = 1 ∧ ls.count 1 = 1) → ¬ (non = true ∧ us = 0) → ¬ okP ls few non := by
  rintro c1 c2 ⟨_, h | h | h⟩
  ·omega
  ·rw [← hus] at h; exact c1 h
  ·rw [← hus] at h; exact c2 h
 cases few <;> cases non
 ·simp -dsimp (disch := first | assumption | omega) only [↓AyE, AyB, AyG, AyF, eq_self, Nat.reduceEqDiff, ↓reduceIte, reduceCtorEq, ↓AyV]
  exact hbad (by simp) (by simp)
 ·by_cases hu0 : us = 0
  ·have hokP : okP ls false true := ⟨hok, .inr (.inr ⟨rfl, by omega⟩)⟩
   simp -dsimp (disch := first | assumption | omega) only [↓AyE, AyB, AyG, AyF, eq_self, Nat.reduceEqDiff, ↓reduceIte, reduceCtorEq, ↓AyV, hu0]
   exact good hokP
  ·simp -dsimp (disch := first | assumption | omega) only [↓AyE, AyB, AyG, AyF, eq_self, Nat.reduceEqDiff, ↓reduceIte, reduceCtorEq, ↓AyV]
   exact hbad (by simp) (by simp [hu0])
 ·by_cases hu1 : us = 1
  ·by_cases hc : ls.count 1 = 1
   ·have hokP : okP ls true false := ⟨hok, .inr (.inl ⟨rfl, by omega, hc⟩)⟩
    simp -dsimp (disch := first | assumption | omega) only [↓AyE, AyB, AyG, AyF, eq_self, Nat.reduceLT, Nat.reduceEqDiff, ↓reduceIte, reduceCtorEq, ↓AyV, hu1, hc1, hc]
    exact good hokP
   ·simp -dsimp (disch := first | assumption | omega) only [↓AyE, AyB, AyG, AyF, eq_self, Nat.reduceLT, Nat.reduceEqDiff, ↓reduceIte, reduceCtorEq, ↓AyV, hu1, hc1]
    exact hbad (by simp [hc]) (by simp)
  ·simp -dsimp (disch := first | assumption | omega) only [↓AyE, AyB, AyG, AyF, eq_self, Nat.reduceEqDiff, ↓reduceIte, reduceCtorEq, ↓AyV]
   exact hbad (by simp [hu1]) (by simp)
 ·by_cases hu1 : us = 1
  ·have hu0 : ¬ (us = 0) := by omega
   by_cases hc : ls.count 1 = 1
   ·have hokP : okP ls true true := ⟨hok, .inr (.inl ⟨rfl, by omega, hc⟩)⟩
    simp -dsimp (disch := first | assumption | omega) only [↓AyE, AyB, AyG, AyF, eq_self, Nat.reduceLT, Nat.reduceEqDiff, ↓reduceIte, reduceCtorEq, ↓AyV, hu1, hc1, hc]
    exact good hokP
   ·simp -dsimp (disch := first | assumption | omega) only [↓AyE, AyB, AyG, AyF, eq_self, Nat.reduceLT, Nat.reduceEqDiff, ↓reduceIte, reduceCtorEq, ↓AyV, hu1, hc1]
    exact hbad (by simp [hc]) (by simp [hu0])
  ·by_cases hu0 : us = 0
   ·have hokP : okP ls true true := ⟨hok, .inr (.inr ⟨rfl, by omega⟩)⟩
    simp -dsimp (disch := first | assumption | omega) only [↓AyE, AyB, AyG, AyF, eq_self, Nat.reduceEqDiff, ↓reduceIte, reduceCtorEq, ↓AyV, hu0]
    exact good hokP
   ·simp -dsimp (disch := first | assumption | omega) only [↓AyE, AyB, AyG, AyF, eq_self, Nat.reduceEqDiff, ↓reduceIte, reduceCtorEq, ↓AyV]
    exact hbad (by simp [hu1]) (by simp [hu0])
end Go.Proofs.YtfgljddikcghhaaDoor


namespace Go.Proofs.YtfgljddikcghhaaDoor
open Go.RowKit
variable [AyP]
set_option linter.unusedSectionVars false
set_option linter.unusedVariables false

section
omit [AyP]
/-- A partial map, at one more place. -/
def A5P {α : Type} (f : List Bool → Option α) (q : List Bool) (x : α) : List Bool → Option α := fun p => if p = q then some x else f p
theorem ACf {α : Type} {f : List Bool → Option α} {q : List Bool} {x : α} : A5P f q x q = some x := by simp [A5P]
theorem AzA {α : Type} {f : List Bool → Option α} {q p : List Bool} {x : α} (h : p ≠ q) : A5P f q x p = f p := by simp [A5P, h]
/-- What stands at the end of some bits. -/
def A1k (P C : List Bool → Option Nat) (q : List Bool) : Int := match C q with
 | some s => -1 - (s : Int)
 | none => match P q with
  | some a => (a : Int)
  | none => 0
/-- The tree T has places P and holds the code C. -/
structure A36 (T : List (Int × Int)) (P C : List Bool → Option Nat) : Prop where
 root : P [] = some 0
 lt : ∀ p a, P p = some a → a < T.length
 inj : ∀ p q a, P p = some a → P q = some a → p = q
 slot : ∀ p a b, P p = some a → AEL T a b = A1k P C (p ++ [b])
 pre : ∀ p b, P (p ++ [b]) ≠ none → P p ≠ none
 cpre : ∀ c b, C (c ++ [b]) ≠ none → P c ≠ none
theorem AVD {p : List Bool} {b : Bool} : p ++ [b] ≠ [] := by simp
theorem AQu {p q : List Bool} {b c : Bool} (h : p ++ [b] = q ++ [c]) : p = q ∧ b = c := by
 have := List.append_inj' h rfl
 exact ⟨this.1, by simpa using this.2⟩
theorem AUx {T : List (Int × Int)} {a : Nat} {b : Bool} {v : Int} (ha : a < T.length) (a' : Nat) (b' : Bool) : AEL (AR7 T a b v) a' b' = if a' = a ∧ b' = b then v else AEL T a' b' := by
 obtain ⟨p, hp⟩ : ∃ p, T[a]? = some p := ⟨_, List.getElem?_eq_getElem ha⟩
 have hs : AR7 T a b v = T.set a (if b then (p.1, v) else (v, p.2)) := by unfold AR7; rw [hp]
 rw [hs]
 unfold AEL
 by_cases e : a' = a
 ·subst e
  rw [List.getElem?_set_self ha, hp]
  cases b <;> cases b' <;> simp
 ·rw [List.getElem?_set_ne (Ne.symm e)]
  simp [e]
theorem A1Q {T : List (Int × Int)} {a : Nat} {b : Bool} {x : Int × Int} (ha : a < T.length) : AEL (T ++ [x]) a b = AEL T a b := by
 unfold AEL; rw [List.getElem?_append_left ha]
theorem A1R {T : List (Int × Int)} {b : Bool} : AEL (T ++ [(0, 0)]) T.length b = 0 := by
 unfold AEL; simp
/-- The bits of a number, the greatest first. -/
def AI0 : Nat → Nat → List Bool
 | 0, _ => []
 | n + 1, v => (v / 2 ^ n % 2 == 1) :: AI0 n v
theorem AIG : ∀ n v, (AI0 n v).length = n
 | 0, _ => rfl
 | n + 1, v => by rw [AI0, List.length_cons, AIG n v]
def AUM (l : List Bool) : Nat := l.foldl (fun a b => a * 2 + (if b then 1 else 0)) 0
theorem AQr : ∀ (n : Nat) {T : List (Int × Int)} {P C : List Bool → Option Nat} {p : List Bool} {a code s : Nat}, A36 T P C → P p = some a → (∀ k, 1 ≤ k → k ≤ n → C (p ++ (AI0 (n + 1) code).take k) = none) →
  ATV n T a code ∧ ∃ P', A36 (AQv n T a code s) P' (A5P C (p ++ AI0 (n + 1) code) s)
 | 0, T, P, C, p, a, code, s, h, hp, hk => by
  have ha := h.lt p a hp
  refine ⟨ha, P, ?_⟩
  have hb : AI0 (0 + 1) code = [code % 2 == 1] := by simp [AI0]
  rw [hb, AQv]
  generalize (code % 2 == 1) = b
  refine ⟨h.root, fun p' a' h1 => by rw [AMF]; exact h.lt p' a' h1, h.inj, fun p' a' b' h1 => ?_, h.pre, fun c b' h1 => ?_⟩
  ·rw [AUx ha]
   unfold A1k
   by_cases e : p' ++ [b'] = p ++ [b]
   ·obtain ⟨rfl, rfl⟩ := AQu e
    rw [hp] at h1; cases h1
    rw [if_pos ⟨rfl, rfl⟩, ACf]
   ·rw [AzA e, if_neg (fun hh => by
     obtain ⟨rfl, rfl⟩ := hh
     exact e (by rw [h.inj p' p a' h1 hp]))]
    exact h.slot p' a' b' h1
  ·by_cases e : c ++ [b'] = p ++ [b]
   ·obtain ⟨rfl, _⟩ := AQu e
    rw [hp]; simp
   ·rw [AzA e] at h1
    exact h.cpre c b' h1
 | n + 1, T, P, C, p, a, code, s, h, hp, hk => by
  have ha := h.lt p a hp
  have hbits : AI0 (n + 1 + 1) code = (code / 2 ^ (n + 1) % 2 == 1) :: AI0 (n + 1) code := rfl
  rw [AQv, ATV]
  generalize hbd : (code / 2 ^ (n + 1) % 2 == 1) = b at *
  have hC : C (p ++ [b]) = none := by
   have := hk 1 (Nat.le_refl _) (by omega)
   rw [hbits, List.take_succ_cons, List.take_zero] at this
   exact this
  have hk' : ∀ k, 1 ≤ k → k ≤ n → C (p ++ [b] ++ (AI0 (n + 1) code).take k) = none := fun k h1 h2 => by
   have := hk (k + 1) (by omega) (by omega)
   rw [hbits, List.take_succ_cons] at this
   rw [List.append_assoc]; exact this
  have happ : p ++ AI0 (n + 1 + 1) code = p ++ [b] ++ AI0 (n + 1) code := by rw [hbits, List.append_assoc]; rfl
  have hsl := h.slot p a b hp
  rw [happ]
  cases hP : P (p ++ [b]) with
  | none =>
   have hsl0 : AEL T a b = 0 := by rw [hsl]; unfold A1k; rw [hC, hP]
   rw [if_pos hsl0, if_pos hsl0]
   have ha2 : a < (T ++ [(0, 0)]).length := by rw [List.length_append]; omega
   have h2 : A36 (AR7 (T ++ [(0, 0)]) a b (T.length : Int)) (A5P P (p ++ [b]) T.length) C := by
    refine ⟨?_, fun p' a' h1 => ?_, fun p' q' a' h1 h2 => ?_, fun p' a' b' h1 => ?_, fun p' b' h1 => ?_, fun c b' h1 => ?_⟩
    ·rw [AzA (fun e => AVD e.symm)]; exact h.root
    ·rw [AMF, List.length_append]
     by_cases e : p' = p ++ [b]
     ·subst e; rw [ACf] at h1; cases h1; simp
     ·rw [AzA e] at h1
      have := h.lt p' a' h1; simp; omega
    ·by_cases e : p' = p ++ [b]
     ·by_cases e2 : q' = p ++ [b]
      ·rw [e, e2]
      ·subst e; rw [ACf] at h1; cases h1
       rw [AzA e2] at h2
       have := h.lt q' _ h2; omega
     ·rw [AzA e] at h1
      by_cases e2 : q' = p ++ [b]
      ·subst e2; rw [ACf] at h2; cases h2
       have := h.lt p' _ h1; omega
      ·rw [AzA e2] at h2
       exact h.inj p' q' a' h1 h2
    ·rw [AUx ha2]
     by_cases e : p' = p ++ [b]
     ·subst e; rw [ACf] at h1; cases h1
      rw [if_neg (fun hh => by omega), A1R]
      have c1 : C (p ++ [b] ++ [b']) = none := by
       refine Classical.byContradiction fun hh => ?_
       exact h.cpre _ _ hh hP
      have c2 : P (p ++ [b] ++ [b']) = none := by
       refine Classical.byContradiction fun hh => ?_
       exact h.pre _ _ hh hP
      unfold A1k
      rw [c1, AzA (fun e => by have := congrArg List.length e; simp at this), c2]
     ·rw [AzA e] at h1
      have hl := h.lt p' a' h1
      by_cases e2 : p' ++ [b'] = p ++ [b]
      ·obtain ⟨rfl, rfl⟩ := AQu e2
       rw [hp] at h1; cases h1
       rw [if_pos ⟨rfl, rfl⟩]
       unfold A1k
       rw [hC, ACf]
      ·rw [if_neg (fun hh => by
        obtain ⟨rfl, rfl⟩ := hh
        exact e2 (by rw [h.inj p' p a' h1 hp])), A1Q hl, h.slot p' a' b' h1]
       unfold A1k
       rw [AzA e2]
    ·by_cases e : p' = p ++ [b]
     ·subst e; rw [ACf]; simp
     ·rw [AzA e]
      by_cases e2 : p' ++ [b'] = p ++ [b]
      ·obtain ⟨rfl, _⟩ := AQu e2
       rw [hp]; simp
      ·rw [AzA e2] at h1
       exact h.pre p' b' h1
    ·by_cases e : c = p ++ [b]
     ·subst e; rw [ACf]; simp
     ·rw [AzA e]; exact h.cpre c b' h1
   obtain ⟨k1, P', k2⟩ := AQr n (s := s) h2 (p := p ++ [b]) ACf hk'
   exact ⟨⟨ha, k1⟩, P', k2⟩
  | some a2 =>
   have hsl2 : AEL T a b = (a2 : Int) := by rw [hsl]; unfold A1k; rw [hC, hP]
   have ha20 : a2 ≠ 0 := fun e => by
    subst e
    exact AVD (h.inj _ _ _ hP h.root)
   have hne : ¬ AEL T a b = 0 := by rw [hsl2]; omega
   rw [if_neg hne, if_neg hne, hsl2, Int.toNat_natCast]
   obtain ⟨k1, P', k2⟩ := AQr n (s := s) h (p := p ++ [b]) hP hk'
   exact ⟨⟨ha, by omega, k1⟩, P', k2⟩
/-- A symbol is looked for bit by bit. -/
def AXZ (C : List Bool → Option Nat) : List Bool → List Bool → Option (Nat × List Bool)
 | _, [] => none
 | p, b :: B => match C (p ++ [b]) with
  | some s => some (s, B)
  | none => AXZ C (p ++ [b]) B
theorem A36.srch_none {T : List (Int × Int)} {P C : List Bool → Option Nat} (h : A36 T P C) : ∀ (B p : List Bool), P p = none → AXZ C p B = none
 | [], p, hp => rfl
 | b :: B, p, hp => by
  have c1 : C (p ++ [b]) = none := Classical.byContradiction fun hh => h.cpre _ _ hh hp
  have c2 : P (p ++ [b]) = none := Classical.byContradiction fun hh => h.pre _ _ hh hp
  rw [AXZ, c1]
  exact h.srch_none B _ c2
theorem A36.sym {T : List (Int × Int)} {P C : List Bool → Option Nat} (h : A36 T P C) : ∀ (B p : List Bool) (a : Nat), P p = some a → AKV T a B = AXZ C p B
 | [], p, a, hp => by rw [AKV, AXZ]
 | b :: B, p, a, hp => by
  have ha := h.lt p a hp
  obtain ⟨x, hx⟩ : ∃ x, T[a]? = some x := ⟨_, List.getElem?_eq_getElem ha⟩
  have hs := h.slot p a b hp
  have hs2 : AEL T a b = if b then x.2 else x.1 := by unfold AEL; rw [hx]
  rw [AKV, hx, AXZ]
  simp only [← hs2, hs]
  unfold A1k
  cases hC : C (p ++ [b]) with
  | some s =>
   simp only
   rw [if_pos (by omega)]
   congr 2
   omega
  | none =>
   simp only
   cases hP : P (p ++ [b]) with
   | some a2 =>
    simp only
    have ha20 : a2 ≠ 0 := fun e => by
     subst e
     exact AVD (h.inj _ _ _ hP h.root)
    rw [if_neg (by omega), if_neg (by omega), Int.toNat_natCast]
    exact h.sym B _ a2 hP
   | none =>
    simp only
    rw [if_neg (by omega), if_pos trivial]
    exact (h.srch_none B _ hP).symm
end
end Go.Proofs.YtfgljddikcghhaaDoor


namespace Go.Proofs.YtfgljddikcghhaaDoor
open Go.RowKit
variable [AyP]
set_option linter.unusedSectionVars false
set_option linter.unusedVariables false
set_option linter.unusedSimpArgs false

/-- The document's reader of a code. -/
def rdC (ls bs : List Nat) : Rd := fun B => (AXK ls bs 15 0 0 B).map fun p => (p.1, B.drop p.2)
section
omit [AyP]
theorem A2B {ls bs : List Nat} {n v i : Nat} (h : AS8 ls bs n v = some i) : i < ls.length := by
 unfold AS8 at h
 rw [List.find?_range_eq_some] at h
 simpa using h.2.1
theorem AT9 {ls bs : List Nat} : ∀ {k n v : Nat} {B : List Bool} {i m : Nat}, AXK ls bs k n v B = some (i, m) → i < ls.length ∧ n + 1 ≤ m ∧ m ≤ n + B.length
 | 0, n, v, B, i, m, h => by simp [AXK] at h
 | k + 1, n, v, [], i, m, h => by simp [AXK] at h
 | k + 1, n, v, b :: B, i, m, h => by
  rw [AXK] at h
  split at h
  ·rename_i j hj
   cases h
   exact ⟨A2B hj, Nat.le_refl _, by rw [List.length_cons]; omega⟩
  ·obtain ⟨h1, h2, h3⟩ := AT9 h
   rw [List.length_cons]
   exact ⟨h1, by omega, by omega⟩
theorem AOF {ls bs : List Nat} {B B1 : List Bool} {y : Nat} (h : rdC ls bs B = some (y, B1)) : y < ls.length ∧ ∃ n, 1 ≤ n ∧ n ≤ B.length ∧ B1 = B.drop n := by
 unfold rdC at h
 obtain ⟨⟨i, m⟩, h1, h2⟩ := Option.map_eq_some_iff.1 h
 cases h2
 obtain ⟨k1, k2, k3⟩ := AT9 h1
 exact ⟨k1, m, by omega, by omega, rfl⟩
end
end Go.Proofs.YtfgljddikcghhaaDoor


namespace Go.Proofs.YtfgljddikcghhaaDoor
open Go.RowKit
variable [AyP]
set_option linter.unusedSectionVars false
set_option linter.unusedVariables false
set_option linter.unusedSimpArgs false

/-- The document's reader of the code of these lengths. -/
def rdR (ls : List Nat) : Rd := rdC ls (CSt.all ls 15).bs
/-- The stream, as it goes well or at the end of its bits. -/
structure A0k (H : List Ob) (id : Nat) (inn : List UInt8) (at_ : Nat) (o : TV) (l : List UInt8) (most win : Int) (J : Option Nat) (ok : Bool) : Prop where
 ob : H[id]? = some (stm inn (if ok then at_ else 8 * inn.length) o most win (if ok then 0 else 10))
 row : AUT H o l J
 ne : J ≠ some id
 at_ : ok = true → at_ ≤ 8 * inn.length
 len : l.length ≤ 1000000
theorem AUL.x {H : List Ob} {id : Nat} {inn : List UInt8} {at_ : Nat} {o : TV} {l : List UInt8} {most win : Int} {J : Option Nat} (h : AUL H id inn at_ o l most win J) : A0k H id inn at_ o l most win J true := ⟨h.ob, h.row, h.ne, fun _ => h.at_, h.len⟩
theorem A0k.ok {H : List Ob} {id : Nat} {inn : List UInt8} {at_ : Nat} {o : TV} {l : List UInt8} {most win : Int} {J : Option Nat} (h : A0k H id inn at_ o l most win J true) : AUL H id inn at_ o l most win J := ⟨h.ob, h.row, h.ne, h.at_ rfl, h.len⟩
theorem A0k.lt {H : List Ob} {id : Nat} {inn : List UInt8} {at_ : Nat} {o : TV} {l : List UInt8} {most win : Int} {J : Option Nat} {ok : Bool} (h : A0k H id inn at_ o l most win J ok) : id < H.length := (List.getElem?_eq_some_iff.1 h.ob).1
/-- New objects, and such as are not the stream's. -/
theorem A0k.keep {H H' : List Ob} {id : Nat} {inn : List UInt8} {at_ : Nat} {o : TV} {l : List UInt8} {most win : Int} {J : Option Nat} {ok : Bool} (h : A0k H id inn at_ o l most win J ok) (hk : ∀ i, i = id ∨ J = some i → H'[i]? = H[i]?) : A0k H' id inn at_ o l most win J ok := by
 refine ⟨by rw [hk id (.inl rfl)]; exact h.ob, ?_, h.ne, h.at_, h.len⟩
 have hr := h.row
 cases J with
 | none => exact hr
 | some j =>
  obtain ⟨v, h1, h2⟩ := hr
  exact ⟨v, h1, by rw [hk j (.inr rfl)]; exact h2⟩
theorem A0k.set {H : List Ob} {id : Nat} {inn : List UInt8} {at_ : Nat} {o : TV} {l : List UInt8} {most win : Int} {J : Option Nat} {ok : Bool} (h : A0k H id inn at_ o l most win J ok) {k : Nat} {x : Ob} (h1 : k ≠ id) (h2 : J ≠ some k) : A0k (H.set k x) id inn at_ o l most win J ok := h.keep fun i hi => by
 rcases hi with rfl | hi
 ·exact List.getElem?_set_ne h1
 ·exact List.getElem?_set_ne (fun e => h2 (by rw [e]; exact hi))
section
omit [AyP]
theorem AMC (B : List Bool) : ∀ i, (AEE B i).length = 19
 | 0 => rfl
 | i + 1 => by rw [AEE, List.length_set, AMC B i]
theorem AJR (n : Nat) (B : List Bool) : ACP (B.take n) < 2 ^ n := by
 have h1 := AVc (B.take n)
 have h2 : (B.take n).length ≤ n := by rw [List.length_take]; omega
 have h3 : 2 ^ (B.take n).length ≤ 2 ^ n := Nat.pow_le_pow_right (by omega) h2
 omega
end
end Go.Proofs.YtfgljddikcghhaaDoor


namespace Go.Proofs.YtfgljddikcghhaaDoor
open Go.RowKit
variable [AyP]
set_option linter.unusedSectionVars false
set_option linter.unusedVariables false

theorem AXM (ls : List Nat) (n i : Nat) : (ls.take (i + 1)).count n = (ls.take i).count n + (if ls[i]? = some n then 1 else 0) := by
 rw [List.take_add_one, List.count_append]
 congr 1
 cases h : ls[i]? with
 | none => simp
 | some m =>
  by_cases e : m = n
  ·subst e; simp
  ·simp [e]
/-- A row of the document's code. -/
theorem ARv (ls : List Nat) (n : Nat) (s : CSt) : ∀ i, (CSt.row ls n i s).nx = s.nx + (ls.take i).count n ∧ (CSt.row ls n i s).us = s.us + (ls.take i).count n ∧ (CSt.row ls n i s).sp = s.sp + (ls.take i).count n * 2 ^ (15 - n) ∧
  (CSt.row ls n i s).lg = (if (ls.take i).count n = 0 then s.lg else n) ∧ ∀ k, (CSt.row ls n i s).bs[k]? = (if k < i ∧ ls[k]? = some n ∧ k < s.bs.length then some (s.nx + (ls.take k).count n) else s.bs[k]?)
 | 0 => by simp [CSt.row]
 | i + 1 => by
  obtain ⟨h1, h2, h3, h4, h5⟩ := ARv ls n s i
  have hbl := CSt.row_len ls n i s
  rw [CSt.row, AXM]
  generalize CSt.row ls n i s = t at *
  unfold CSt.one
  by_cases e : ls[i]? = some n
  ·rw [if_pos e, if_pos e]
   refine ⟨by show t.nx + 1 = _; omega, by show t.us + 1 = _; omega, by show t.sp + _ = _; rw [h3, Nat.add_mul]; omega, by simp, fun k => ?_⟩
   show (t.bs.set i t.nx)[k]? = _
   by_cases ek : k = i
   ·subst ek
    by_cases hkl : k < s.bs.length
    ·rw [List.getElem?_set_self (by omega), h1, if_pos ⟨by omega, e, hkl⟩]
    ·rw [List.getElem?_eq_none (by simp; omega), if_neg (by omega), List.getElem?_eq_none (by omega)]
   ·rw [List.getElem?_set_ne (Ne.symm ek), h5 k]
    by_cases hc : k < i ∧ ls[k]? = some n ∧ k < s.bs.length
    ·rw [if_pos hc, if_pos ⟨by omega, hc.2⟩]
    ·rw [if_neg hc, if_neg (fun hh => hc ⟨by omega, hh.2⟩)]
  ·rw [if_neg e, if_neg e]
   refine ⟨by omega, by omega, by rw [h3]; simp, by rw [h4]; simp, fun k => ?_⟩
   rw [h5 k]
   by_cases hc : k < i ∧ ls[k]? = some n ∧ k < s.bs.length
   ·rw [if_pos hc, if_pos ⟨by omega, hc.2⟩]
   ·rw [if_neg hc, if_neg (fun hh => hc ⟨by
     have : k ≠ i := fun e2 => e (by rw [← e2]; exact hh.2.1)
     omega, hh.2⟩)]
theorem AVW (ls : List Nat) : ∀ n, (CSt.all ls n).nx * 2 = stN ls (n + 1)
 | 0 => by simp [CSt.all, stN]
 | n + 1 => by
  have h := (ARv ls (n + 1) { CSt.all ls n with nx := (CSt.all ls n).nx * 2 } ls.length).1
  rw [List.take_length] at h
  have e : (CSt.all ls (n + 1)).nx = (CSt.all ls n).nx * 2 + ls.count (n + 1) := h
  rw [e, AVW ls n, stN]
theorem AYE (ls : List Nat) (n : Nat) : (CSt.all ls (n + 1)).nx = stN ls (n + 1) + ls.count (n + 1) := by
 have h := (ARv ls (n + 1) { CSt.all ls n with nx := (CSt.all ls n).nx * 2 } ls.length).1
 rw [List.take_length] at h
 have e : (CSt.all ls (n + 1)).nx = (CSt.all ls n).nx * 2 + ls.count (n + 1) := h
 rw [e, AVW]
theorem AWc (ls : List Nat) : ∀ n, (CSt.all ls n).us = AIK ls n
 | 0 => rfl
 | n + 1 => by
  have h := (ARv ls (n + 1) { CSt.all ls n with nx := (CSt.all ls n).nx * 2 } ls.length).2.1
  rw [List.take_length] at h
  have e : (CSt.all ls (n + 1)).us = (CSt.all ls n).us + ls.count (n + 1) := h
  rw [e, AWc ls n, AIK]
theorem A7x (ls : List Nat) (n : Nat) : (CSt.all ls (n + 1)).lg = if ls.count (n + 1) = 0 then (CSt.all ls n).lg else n + 1 := by
 have h := (ARv ls (n + 1) { CSt.all ls n with nx := (CSt.all ls n).nx * 2 } ls.length).2.2.2.1
 rw [List.take_length] at h
 exact h
theorem AZI (ls : List Nat) (n : Nat) : (CSt.all ls (n + 1)).sp = (CSt.all ls n).sp + ls.count (n + 1) * 2 ^ (15 - (n + 1)) := by
 have h := (ARv ls (n + 1) { CSt.all ls n with nx := (CSt.all ls n).nx * 2 } ls.length).2.2.1
 rw [List.take_length] at h
 exact h
theorem A4d (ls : List Nat) : ∀ n, n ≤ 15 → (CSt.all ls n).sp = (CSt.all ls n).nx * 2 ^ (15 - n)
 | 0, _ => by simp [CSt.all]
 | n + 1, hn => by
  rw [AZI, A4d ls n (by omega), AYE, ← AVW, Nat.add_mul]
  congr 1
  rw [show 15 - n = (15 - (n + 1)) + 1 by omega, Nat.pow_succ, Nat.mul_comm (2 ^ (15 - (n + 1))) 2, ← Nat.mul_assoc]
theorem ATF (ls : List Nat) : ∀ n, n ≤ 15 → (CSt.all ls n).sp ≤ (CSt.all ls n).us * 16384
 | 0, _ => by simp [CSt.all]
 | n + 1, hn => by
  have ih := ATF ls n (by omega)
  rw [AZI, AWc, AIK, ← AWc, Nat.add_mul]
  have h : 2 ^ (15 - (n + 1)) ≤ 2 ^ 14 := Nat.pow_le_pow_right (by omega) (by omega)
  have := Nat.mul_le_mul_left (ls.count (n + 1)) h
  omega
theorem A4j (ls : List Nat) {i m : Nat} (hi : ls[i]? = some (m + 1)) : ∀ n, m + 1 ≤ n → (CSt.all ls n).bs[i]? = some (AAt ls (m + 1) i)
 | 0, h => by omega
 | n + 1, h => by
  have hil : i < ls.length := (List.getElem?_eq_some_iff.1 hi).1
  have hrow := (ARv ls (n + 1) { CSt.all ls n with nx := (CSt.all ls n).nx * 2 } ls.length).2.2.2.2 i
  have hlen : (CSt.all ls n).bs.length = ls.length := CSt.all_len ls n
  have e : (CSt.all ls (n + 1)).bs[i]? = if i < ls.length ∧ ls[i]? = some (n + 1) ∧ i < (CSt.all ls n).bs.length then some ((CSt.all ls n).nx * 2 + (ls.take i).count (n + 1)) else (CSt.all ls n).bs[i]? := hrow
  rw [e]
  by_cases hmn : m = n
  ·subst hmn
   rw [if_pos ⟨hil, hi, by omega⟩, AVW, AAt]
  ·rw [if_neg (by rw [hi]; simp; omega)]
   exact A4j ls hi n (by omega)
theorem A8k (ls : List Nat) : ∀ n, AIK ls n = 0 → ∀ k, 1 ≤ k → k ≤ n → ls.count k = 0
 | 0, _, k, h1, h2 => by omega
 | n + 1, h, k, h1, h2 => by
  rw [AIK] at h
  by_cases e : k = n + 1
  ·rw [e]; omega
  ·exact A8k ls n (by omega) k h1 (by omega)
theorem A6M (ls : List Nat) : ∀ n, AIK ls n = 1 → ((CSt.all ls n).lg = 1 ↔ ls.count 1 = 1)
 | 0, h => by simp [AIK] at h
 | n + 1, h => by
  rw [AIK] at h
  rw [A7x]
  by_cases hc : ls.count (n + 1) = 0
  ·rw [if_pos hc]
   exact A6M ls n (by omega)
  ·rw [if_neg hc]
   have h0 : AIK ls n = 0 := by omega
   by_cases hn : n = 0
   ·subst hn
    have hc1 : ls.count (0 + 1) = 1 := by omega
    exact ⟨fun _ => hc1, fun _ => rfl⟩
   ·have := A8k ls n h0 1 (Nat.le_refl _) (by omega)
    omega
theorem ATk (ls : List Nat) : ∀ n m, n ≤ m → ACV ls n < 0 → ACV ls m < 0
 | n, 0, h, hl => by rw [Nat.le_zero.1 h] at hl; exact hl
 | n, m + 1, h, hl => by
  by_cases e : n = m + 1
  ·rw [← e]; exact hl
  ·have := ATk ls n m (by omega) hl
   rw [ACV]; omega
theorem A4f (ls : List Nat) : ACV ls 15 = 32768 - ((CSt.all ls 15).sp : Int) := by
 have h : ACV ls 15 = (2 : Int) ^ 15 - ((stN ls 15 + ls.count 15 : Nat) : Int) := AQp ls 14
 have h2 : (CSt.all ls 15).nx = stN ls 15 + ls.count 15 := AYE ls 14
 have h3 := A4d ls 15 (Nat.le_refl _)
 rw [h, ← h2, h3]
 simp
theorem AS9 (ls : List Nat) (h : (CSt.all ls 15).sp ≤ 32768) : AEf ls 15 := fun k hk => by
 refine Classical.byContradiction fun hn => ?_
 have := ATk ls k 15 hk (by omega)
 rw [A4f] at this
 omega
/-- Both know the same codes. -/
theorem ASQ (ls : List Nat) (few non : Bool) : okC ls few non = true ↔ okP ls few non := by
 have hl := A4f ls
 have hu := AWc ls 15
 have hs := ATF ls 15 (Nat.le_refl _)
 unfold okC okP
 simp only [Bool.or_eq_true, Bool.and_eq_true, decide_eq_true_eq]
 constructor
 ·rintro (h | ⟨⟨h1, h2⟩, h3⟩ | ⟨h1, h2⟩)
  ·exact ⟨AS9 ls (by omega), .inl (by omega)⟩
  ·have hu1 : AIK ls 15 = 1 := by omega
   exact ⟨AS9 ls (by omega), .inr (.inl ⟨h1, hu1, (A6M ls 15 hu1).1 h3⟩)⟩
  ·exact ⟨AS9 ls (by omega), .inr (.inr ⟨h1, by omega⟩)⟩
 ·rintro ⟨h0, h | ⟨h1, h2, h3⟩ | ⟨h1, h2⟩⟩
  ·have := h0 15 (Nat.le_refl _)
   exact .inl (by omega)
  ·exact .inr (.inl ⟨⟨h1, by omega⟩, (A6M ls 15 h2).2 h3⟩)
  ·exact .inr (.inr ⟨h1, by omega⟩)
end Go.Proofs.YtfgljddikcghhaaDoor


namespace Go.Proofs.YtfgljddikcghhaaDoor
open Go.RowKit
variable [AyP]
set_option linter.unusedSectionVars false
set_option linter.unusedVariables false

section
omit [AyP]
theorem ARx (l : List Bool) (b : Bool) : AUM (l ++ [b]) = AUM l * 2 + (if b then 1 else 0) := by unfold AUM; rw [List.foldl_append]; rfl
theorem ASk : ∀ (N v k acc : Nat), k ≤ N → ((AI0 N v).take k).foldl (fun a b => a * 2 + (if b then 1 else 0)) acc = acc * 2 ^ k + v / 2 ^ (N - k) % 2 ^ k
 | N, v, 0, acc, h => by simp [Nat.mod_one]
 | 0, v, k + 1, acc, h => by omega
 | N + 1, v, k + 1, acc, h => by
  have hb : (if (v / 2 ^ N % 2 == 1) = true then 1 else 0) = v / 2 ^ N % 2 := by
   rcases Nat.mod_two_eq_zero_or_one (v / 2 ^ N) with h | h <;> simp [h]
  rw [AI0, List.take_succ_cons, List.foldl_cons, hb, ASk N v k _ (by omega), show N + 1 - (k + 1) = N - k by omega]
  have e1 : v / 2 ^ N = v / 2 ^ (N - k) / 2 ^ k := by rw [Nat.div_div_eq_div_mul, ← Nat.pow_add, Nat.sub_add_cancel (by omega)]
  rw [e1]
  generalize v / 2 ^ (N - k) = x
  rw [Nat.pow_succ, Nat.mod_mul, Nat.add_mul, Nat.mul_assoc acc 2 (2 ^ k), Nat.mul_comm 2 (2 ^ k), Nat.mul_comm (x / 2 ^ k % 2) (2 ^ k)]
  omega
theorem AT4 {N v k : Nat} (h : k ≤ N) (hv : v < 2 ^ N) : AUM ((AI0 N v).take k) = v / 2 ^ (N - k) := by
 unfold AUM
 rw [ASk N v k 0 h, Nat.zero_mul, Nat.zero_add, Nat.mod_eq_of_lt]
 rw [Nat.div_lt_iff_lt_mul (Nat.two_pow_pos _), ← Nat.pow_add, Nat.add_comm, Nat.sub_add_cancel h]
 exact hv
theorem ARp {N v : Nat} (hv : v < 2 ^ N) : AUM (AI0 N v) = v := by
 have := AT4 (k := N) (Nat.le_refl _) hv
 rwa [List.take_of_length_le (by rw [AIG]; omega), Nat.sub_self, Nat.pow_zero, Nat.div_one] at this
theorem A4v {P : List Bool → Prop} (h0 : P []) (h1 : ∀ l b, P l → P (l ++ [b])) : ∀ l, P l := by
 intro l
 rw [← List.reverse_reverse l]
 induction l.reverse with
 | nil => exact h0
 | cons b r ih => rw [List.reverse_cons]; exact h1 _ _ ih
theorem A3v : ∀ (l m : List Bool), l.length = m.length → AUM l = AUM m → l = m := by
 refine A4v (fun m h _ => (List.length_eq_zero_iff.1 h.symm).symm) fun l b ih m h hv => ?_
 rcases List.eq_nil_or_concat m with rfl | ⟨m', c, rfl⟩
 ·simp at h
 ·rw [List.concat_eq_append] at *
  rw [ARx, ARx] at hv
  have hlen : l.length = m'.length := by simpa using h
  have hbc : b = c ∧ AUM l = AUM m' := by cases b <;> cases c <;> simp at hv ⊢ <;> omega
  rw [hbc.1, ih m' hlen hbc.2]
/-- The first i symbols' code. -/
def Cf (ls : List Nat) (i : Nat) (q : List Bool) : Option Nat := (List.range i).find? fun s => decide (ls[s]? = some q.length ∧ q.length ≠ 0 ∧ AAt ls q.length s = AUM q)
theorem AQQ {ls : List Nat} {i : Nat} {q : List Bool} (h : ∀ s, s < i → ¬ (ls[s]? = some q.length ∧ q.length ≠ 0 ∧ AAt ls q.length s = AUM q)) : Cf ls i q = none := by
 unfold Cf
 rw [List.find?_range_eq_none]
 intro j hj
 rw [Bool.not_eq_true', decide_eq_false_iff_not]
 exact h j hj
theorem AX9 (ls : List Nat) (i : Nat) (q : List Bool) : Cf ls (i + 1) q = match Cf ls i q with
  | some s => some s
  | none => if ls[i]? = some q.length ∧ q.length ≠ 0 ∧ AAt ls q.length i = AUM q then some i else none := by
 unfold Cf
 rw [List.range_succ, List.find?_append]
 cases (List.range i).find? fun s => decide (ls[s]? = some q.length ∧ q.length ≠ 0 ∧ AAt ls q.length s = AUM q) with
 | some s => rfl
 | none =>
  simp only [Option.none_or, List.find?_cons, List.find?_nil]
  by_cases h : ls[i]? = some q.length ∧ q.length ≠ 0 ∧ AAt ls q.length i = AUM q
  ·rw [if_pos h, decide_eq_true h]
  ·rw [if_neg h, decide_eq_false h]
theorem ATg {ls : List Nat} {n s : Nat} (h : ls[s]? = some n) : (ls.take s).count n < ls.count n := by
 have hs : s < ls.length := (List.getElem?_eq_some_iff.1 h).1
 have h1 : (ls.take (s + 1)).count n ≤ ls.count n := List.Sublist.count_le n (List.take_sublist _ _)
 rw [List.take_add_one, h, List.count_append] at h1
 simp at h1
 omega
theorem AYM {ls : List Nat} {n s i : Nat} (h : ls[s]? = some n) (hi : s < i) : (ls.take s).count n < (ls.take i).count n := by
 have h2 : (ls.take i)[s]? = some n := by rw [List.getElem?_take, if_pos hi]; exact h
 have := ATg h2
 rwa [List.take_take, Nat.min_eq_left (by omega)] at this
theorem AWd (ls : List Nat) (m : Nat) (hm : 1 ≤ m) : ∀ d, (stN ls m + ls.count m) * 2 ^ (d + 1) ≤ stN ls (m + (d + 1))
 | 0 => by
  obtain ⟨k, rfl⟩ : ∃ k, m = k + 1 := ⟨m - 1, by omega⟩
  rw [show k + 1 + (0 + 1) = k + 2 by omega, stN]
  simp
 | d + 1 => by
  have h := AWd ls m hm d
  obtain ⟨k, hk⟩ : ∃ k, m + (d + 1) = k + 1 := ⟨m + d, by omega⟩
  rw [show m + (d + 1 + 1) = k + 2 by omega, stN, ← hk]
  rw [Nat.pow_succ, ← Nat.mul_assoc]
  omega
theorem AYR {ls : List Nat} (hok : AEf ls 15) {n i : Nat} (hn : n + 1 ≤ 15) (hi : ls[i]? = some (n + 1)) : AAt ls (n + 1) i < 2 ^ (n + 1) := by
 have h1 := (AWv ls hok (n + 1) (by omega)).2 (by omega) hn
 have h2 := ATg hi
 unfold AAt; omega
theorem AYx {ls : List Nat} (hok : AEf ls 15) {n i : Nat} (hn : n + 1 ≤ 15) (hi : ls[i]? = some (n + 1)) {k : Nat} (h1 : 1 ≤ k) (h2 : k ≤ n) : Cf ls i ((AI0 (n + 1) (AAt ls (n + 1) i)).take k) = none := by
 have hlt := AYR hok hn hi
 have hlen : ((AI0 (n + 1) (AAt ls (n + 1) i)).take k).length = k := by rw [List.length_take, AIG]; omega
 refine AQQ fun s hs ⟨c1, _, c2⟩ => ?_
 rw [hlen] at c1 c2
 rw [AT4 (by omega) hlt] at c2
 have h3 : AAt ls k s < stN ls k + ls.count k := by have := ATg c1; unfold AAt; omega
 obtain ⟨d, hd⟩ : ∃ d, n + 1 - k = d + 1 := ⟨n - k, by omega⟩
 have h4 := AWd ls k h1 d
 rw [show k + (d + 1) = n + 1 by omega] at h4
 rw [hd] at c2
 have h5 : stN ls k + ls.count k ≤ AAt ls (n + 1) i / 2 ^ (d + 1) := by
  rw [Nat.le_div_iff_mul_le (Nat.two_pow_pos _)]
  have : stN ls (n + 1) ≤ AAt ls (n + 1) i := by unfold AAt; omega
  omega
 omega
theorem A7O {ls : List Nat} (hok : AEf ls 15) {n i : Nat} (hn : n + 1 ≤ 15) (hi : ls[i]? = some (n + 1)) : Cf ls (i + 1) = A5P (Cf ls i) ([] ++ AI0 (n + 1) (AAt ls (n + 1) i)) i := by
 have hlt := AYR hok hn hi
 funext q
 rw [AX9, List.nil_append]
 by_cases hq : q = AI0 (n + 1) (AAt ls (n + 1) i)
 ·subst hq
  rw [ACf, AQQ]
  ·simp only
   rw [if_pos]
   rw [AIG, ARp hlt]
   exact ⟨hi, by omega, rfl⟩
  ·rintro s hs ⟨c1, _, c2⟩
   rw [AIG] at c1 c2
   rw [ARp hlt] at c2
   have := AYM c1 hs
   unfold AAt at c2
   omega
 ·rw [AzA hq]
  cases hC : Cf ls i q with
  | some s => rfl
  | none =>
   simp only
   rw [if_neg]
   rintro ⟨c1, _, c2⟩
   rw [hi] at c1
   have e : n + 1 = q.length := by simpa using c1
   rw [← e] at c2
   exact hq (A3v _ _ (by rw [AIG, e]) (by rw [ARp hlt, c2]))
theorem ATf {ls : List Nat} (h15 : ∀ n ∈ ls, n ≤ 15) (hok : AEf ls 15) : ∀ i, i ≤ ls.length → ∃ P, A36 (AAc ls i) P (Cf ls i)
 | 0, _ => by
  refine ⟨fun q => if q = [] then some 0 else none, ⟨rfl, fun p a h => ?_, fun p q a h1 h2 => ?_, fun p a b h => ?_, fun p b h => ?_, fun c b h => ?_⟩⟩
  ·split at h
   ·cases h; simp [AAc]
   ·cases h
  ·split at h1
   ·split at h2
    ·rename_i e1 e2; rw [e1, e2]
    ·cases h2
   ·cases h1
  ·split at h
   ·cases h
    have : Cf ls 0 (p ++ [b]) = none := AQQ fun s hs => by omega
    unfold A1k
    rw [this]
    simp [AAc, AEL]
   ·cases h
  ·simp at h
  ·exact absurd (AQQ fun s hs => by omega) h
 | i + 1, hi => by
  obtain ⟨P, hP⟩ := ATf h15 hok i (by omega)
  obtain ⟨n, hn⟩ : ∃ n, ls[i]? = some n := ⟨_, List.getElem?_eq_getElem (by omega)⟩
  have hn15 := h15 n (List.mem_of_getElem? hn)
  cases n with
  | zero =>
   refine ⟨P, ?_⟩
   have hg : AAc ls (i + 1) = AAc ls i := by rw [AAc, hn]
   have hc : Cf ls (i + 1) = Cf ls i := by
    funext q
    rw [AX9]
    cases Cf ls i q with
    | some s => rfl
    | none =>
     simp only
     rw [if_neg]
     rintro ⟨c1, c2, _⟩
     rw [hn] at c1
     exact c2 (by simpa using c1.symm)
   rw [hg, hc]; exact hP
  | succ n =>
   have hg : AAc ls (i + 1) = AQv n (AAc ls i) 0 (AAt ls (n + 1) i) i := by rw [AAc, hn]
   obtain ⟨_, P', hP'⟩ := AQr n (s := i) (code := AAt ls (n + 1) i) hP hP.root (fun k h1 h2 => by rw [List.nil_append]; exact AYx hok hn15 hn h1 h2)
   exact ⟨P', by rw [hg, A7O hok hn15 hn]; exact hP'⟩
theorem A4W {ls : List Nat} (h15 : ∀ n ∈ ls, n ≤ 15) (hok : AEf ls 15) : AX7 ls := fun i n hn => by
 obtain ⟨P, hP⟩ := ATf h15 hok i (Nat.le_of_lt (List.getElem?_eq_some_iff.1 hn).1)
 exact (AQr n (s := i) (code := AAt ls (n + 1) i) hP hP.root (fun k h1 h2 => by rw [List.nil_append]; exact AYx hok (h15 _ (List.mem_of_getElem? hn)) hn h1 h2)).1
theorem ATz {C : List Bool → Option Nat} : ∀ (B p : List Bool), (∀ q, p.length < q.length → C q = none) → AXZ C p B = none
 | [], p, h => rfl
 | b :: B, p, h => by
  rw [AXZ, h (p ++ [b]) (by simp)]
  exact ATz B _ fun q hq => h q (by simp at hq; omega)
end
/-- The document's reader looks for the same. -/
theorem A09 {ls : List Nat} (h15 : ∀ n ∈ ls, n ≤ 15) (q : List Bool) (hq : q.length ≠ 0) : AS8 ls (CSt.all ls 15).bs q.length (AUM q) = Cf ls ls.length q := by
 unfold AS8 Cf
 congr 1
 funext s
 by_cases h : ls[s]? = some q.length
 ·obtain ⟨m, hm⟩ : ∃ m, q.length = m + 1 := ⟨q.length - 1, by omega⟩
  rw [hm] at h ⊢
  have hle := h15 _ (List.mem_of_getElem? h)
  rw [A4j ls h 15 hle]
  simp [h]
 ·simp [h]
theorem ATp {ls : List Nat} (h15 : ∀ n ∈ ls, n ≤ 15) : ∀ (k : Nat) (p B : List Bool), p.length + k = 15 → (AXK ls (CSt.all ls 15).bs k p.length (AUM p) B).map (fun x => (x.1, (p ++ B).drop x.2)) = AXZ (Cf ls ls.length) p B
 | 0, p, B, h => by
  rw [AXK, ATz]
  ·rfl
  ·intro q hq
   refine AQQ fun s hs ⟨c1, _⟩ => ?_
   have := h15 _ (List.mem_of_getElem? c1)
   omega
 | k + 1, p, [], h => by rw [AXK, AXZ]; rfl
 | k + 1, p, b :: B, h => by
  have hst := ARx p b
  have hl : (p ++ [b]).length = p.length + 1 := by simp
  have hf := A09 h15 (p ++ [b]) (by simp)
  rw [hl, hst] at hf
  rw [AXK, AXZ, hf]
  cases hC : Cf ls ls.length (p ++ [b]) with
  | some s =>
   simp only [Option.map_some]
   rw [show p ++ b :: B = (p ++ [b]) ++ B by simp, List.drop_left' hl]
  | none =>
   simp only
   have ih := ATp h15 k (p ++ [b]) B (by rw [hl]; omega)
   rw [hl, hst, List.append_assoc] at ih
   exact ih
theorem A1u {ls : List Nat} (h15 : ∀ n ∈ ls, n ≤ 15) (B : List Bool) : rdR ls B = AXZ (Cf ls ls.length) [] B := by
 have := ATp h15 15 [] B rfl
 rw [← this]
 rfl
/-- The tree reads as the document's code. -/
theorem A8I {ls : List Nat} (h15 : ∀ n ∈ ls, n ≤ 15) (hok : AEf ls 15) : AKV (AAc ls ls.length) 0 = rdR ls := by
 funext B
 obtain ⟨P, hP⟩ := ATf h15 hok ls.length (Nat.le_refl _)
 rw [hP.sym B [] 0 hP.root, A1u h15]
end Go.Proofs.YtfgljddikcghhaaDoor


namespace Go.Proofs.YtfgljddikcghhaaDoor
open Go.RowKit
variable [AyP]
set_option linter.unusedSectionVars false
set_option linter.unusedVariables false
set_option linter.unusedSimpArgs false

abbrev AXW : TV := .val (.slice none 0 0)
end Go.Proofs.YtfgljddikcghhaaDoor


namespace Go.Proofs.YtfgljddikcghhaaDoor
open Go.RowKit
variable [AyP]
set_option linter.unusedSectionVars false
set_option linter.unusedVariables false
set_option linter.unusedSimpArgs false

end Go.Proofs.YtfgljddikcghhaaDoor


namespace Go.Proofs.YtfgljddikcghhaaDoor
open Go.RowKit
variable [AyP]
set_option linter.unusedSectionVars false
set_option linter.unusedVariables false
set_option linter.unusedSimpArgs false

def AUP (i : Nat) : Nat := if 143 < i ∧ i < 256 then 9 else if 255 < i ∧ i < 280 then 7 else 8
set_option maxRecDepth 100000 in
theorem A4q : (List.range 288).map AUP = ABz := by decide
theorem A6z : (List.range 32).map (fun _ => 5) = AJE := by decide
end Go.Proofs.YtfgljddikcghhaaDoor


namespace Go.Proofs.YtfgljddikcghhaaDoor
open Go.RowKit
variable [AyP]
set_option linter.unusedSectionVars false
set_option linter.unusedVariables false
set_option linter.unusedSimpArgs false

section
omit [AyP]
theorem AOk (x : UInt8) (l : List UInt8) : AAg (x :: l) = AyR 8 x.toNat ++ AAg l := rfl
theorem ALG : ∀ (k : Nat) (l : List UInt8), (AAg l).drop (8 * k) = AAg (l.drop k)
 | 0, l => by simp
 | k + 1, [] => by simp [AAg]
 | k + 1, x :: l => by
  rw [AOk, List.drop_append, AyU, List.drop_eq_nil_of_le (by rw [AyU]; omega), List.nil_append, show 8 * (k + 1) - 8 = 8 * k by omega, ALG k l, List.drop_succ_cons]
theorem AZv {l : List UInt8} {k : Nat} {c : UInt8} (h : l[k]? = some c) : ACP (((AAg l).drop (8 * k)).take 8) = c.toNat := by
 obtain ⟨hk, rfl⟩ := List.getElem?_eq_some_iff.1 h
 rw [ALG, List.drop_eq_getElem_cons hk, AOk, List.take_append_of_le_length (by rw [AyU]; omega), List.take_of_length_le (by rw [AyU]; omega), ALE]
 have := l[k].toNat_lt
 omega
theorem AQ6 {l : List UInt8} {n a : Nat} (h : a + n ≤ l.length) : APW n ((AAg l).drop (8 * a)) = (l.drop a).take n := by
 apply List.ext_getElem?
 intro i
 unfold APW
 rw [List.getElem?_map]
 by_cases hi : i < n
 ·obtain ⟨c, hc⟩ : ∃ c, l[a + i]? = some c := ⟨_, List.getElem?_eq_getElem (by omega)⟩
  have h1 : (List.range n)[i]? = some i := by simp [hi]
  rw [List.getElem?_take, if_pos hi, List.getElem?_drop, hc]
  have h2 := AZv hc
  rw [h1, Option.map_some, List.drop_drop, show 8 * a + 8 * i = 8 * (a + i) by omega, h2]
  simp
 ·rw [List.getElem?_take, if_neg hi]
  have h1 : (List.range n)[i]? = none := by simp; omega
  simp [h1]
end
end Go.Proofs.YtfgljddikcghhaaDoor


namespace Go.Proofs.YtfgljddikcghhaaDoor
open Go.RowKit
variable [AyP]
set_option linter.unusedSectionVars false
set_option linter.unusedVariables false
set_option linter.unusedSimpArgs false

theorem AWp (ls : List Nat) : A13 (rdR ls) := fun B y B1 h => by
 obtain ⟨_, n, h1, h2, rfl⟩ := AOF h
 rw [List.length_drop]; omega
theorem AQx : ABz.length = 288 := by simp only [ABz, List.length_append, List.length_replicate]
theorem AS6 : AJE.length = 32 := by simp only [AJE, List.length_replicate]
theorem AUL.keep {H H' : List Ob} {id : Nat} {inn : List UInt8} {at_ : Nat} {o : TV} {l : List UInt8} {most win : Int} {J : Option Nat} (h : AUL H id inn at_ o l most win J) (hk : ∀ i, i = id ∨ J = some i → H'[i]? = H[i]?) : AUL H' id inn at_ o l most win J := (h.x.keep hk).ok
end Go.Proofs.YtfgljddikcghhaaDoor


namespace Go.Proofs.YtfgljddikcghhaaDoor
open Go.RowKit
variable [AyP]
set_option linter.unusedSectionVars false
set_option linter.unusedVariables false
set_option linter.unusedSimpArgs false

section
omit [AyP]
theorem ASm {T : List (Int × Int)} (h : ADO T) {a : Nat} {b : Bool} {v : Int} (hv : -1000000 ≤ v ∧ v < T.length) : ADO (AR7 T a b v) := by
 unfold AR7
 split
 ·rename_i p hp
  intro q hq
  rw [List.length_set]
  rcases List.mem_or_eq_of_mem_set hq with hq | rfl
  ·exact h q hq
  ·have := h p (List.mem_of_getElem? hp)
   cases b
   ·exact ⟨hv, this.2⟩
   ·exact ⟨this.1, hv⟩
 ·exact h
theorem AW8 {T : List (Int × Int)} (h : ADO T) : ADO (T ++ [(0, 0)]) := by
 intro q hq
 rw [List.length_append, List.length_singleton]
 rcases List.mem_append.1 hq with hq | hq
 ·have := h q hq
  push_cast
  omega
 ·rw [List.mem_singleton] at hq
  subst hq
  push_cast
  refine ⟨⟨?_, ?_⟩, ?_, ?_⟩ <;> (try simp only) <;> omega
theorem APv : ∀ (n : Nat) {T : List (Int × Int)} (a code s : Nat), ADO T → 0 < T.length → s ≤ 999000 → ADO (AQv n T a code s) ∧ 0 < (AQv n T a code s).length
 | 0, T, a, code, s, h, h0, hs => by
  rw [AQv]
  exact ⟨ASm h (by omega), by rw [AMF]; exact h0⟩
 | n + 1, T, a, code, s, h, h0, hs => by
  rw [AQv]
  split
  ·refine APv n _ _ _ (ASm (AW8 h) ?_) (by rw [AMF, List.length_append]; omega) hs
   rw [List.length_append, List.length_singleton]
   push_cast
   omega
  ·exact APv n _ _ _ h h0 hs
theorem ARd (ls : List Nat) (hl : ls.length ≤ 1000) : ∀ i, i ≤ ls.length → ADO (AAc ls i) ∧ 0 < (AAc ls i).length
 | 0, _ => by
  refine ⟨fun q hq => ?_, by simp [AAc]⟩
  rw [AAc, List.mem_singleton] at hq
  subst hq
  simp [AAc]
 | i + 1, hi => by
  obtain ⟨h1, h2⟩ := ARd ls hl i (by omega)
  rw [AAc]
  split
  ·exact APv _ _ _ _ h1 h2 (by omega)
  ·exact ⟨h1, h2⟩
end
/-- A tree that reads as the code of these lengths. -/
def AYB (ls : List Nat) (T : List (Int × Int)) : Prop := ADO T ∧ 0 < T.length ∧ AKV T 0 = rdR ls
theorem AYQ {ls : List Nat} {few non : Bool} (hl : ls.length ≤ 1000) (h15 : ∀ n ∈ ls, n ≤ 15) :
  AJC Tryd.prog 28 [AKD ls, tb few, tb non] (fun x => okC ls few non = true ∧ ∃ T, x = ANT T ∧ AYB ls T) (fun u => okC ls few non = false ∧ u = AUB 10) := by
 refine (Bap hl h15 fun hok => A4W h15 hok).mono ?_ ?_
 ·rintro x ⟨h1, rfl⟩
  obtain ⟨k1, k2⟩ := ARd ls hl ls.length (Nat.le_refl _)
  exact ⟨(ASQ ls few non).2 h1, _, rfl, k1, k2, A8I h15 h1.1⟩
 ·rintro u ⟨h1, rfl⟩
  refine ⟨?_, rfl⟩
  cases h : okC ls few non with
  | false => rfl
  | true => exact absurd ((ASQ ls few non).1 h) h1
end Go.Proofs.YtfgljddikcghhaaDoor


namespace Go.Proofs.YtfgljddikcghhaaDoor
open Go.RowKit
variable [AyP]
set_option linter.unusedSectionVars false
set_option linter.unusedVariables false
set_option linter.unusedSimpArgs false

abbrev A2r (l : List Nat) (n : Nat) : Ob := .obj 0 (.arr n 1 (l.map fun (n : Nat) => i64 (n : Int)))
section
omit [AyP]
theorem AZQ {L : List Nat} {f : Nat → Nat} {i n : Nat} (hi : i < n) : ((List.range i).map f ++ List.replicate (n - i) 0).set i (f i) = (List.range (i + 1)).map f ++ List.replicate (n - (i + 1)) 0 := by
 rw [List.set_append_right _ _ (by simp), List.length_map, List.length_range, Nat.sub_self, show n - i = (n - (i + 1)) + 1 by omega, List.replicate_succ, List.set_cons_zero, List.range_succ, List.map_append, List.append_assoc]
 rfl
theorem AZ6 {f : Nat → Nat} {i n : Nat} (hi : i ≤ n) : ((List.range i).map f ++ List.replicate (n - i) 0).length = n := by simp; omega
theorem AYg {f : Nat → Nat} {i n : Nat} (hi : i < n) : ((List.range i).map f ++ List.replicate (n - i) 0)[i]? = some 0 := by
 rw [List.getElem?_append_right (by simp), List.length_map, List.length_range, Nat.sub_self, List.getElem?_replicate, if_pos (by omega)]
end
set_option maxRecDepth 100000 in
theorem A4e : ABM Tryd.prog 26 [] (fun x => x = .tup [AKD ABz, AKD AJE]) := by
 refine AyW.toPureV (AJx (by simp) ?_)
 simp -dsimp (disch := first | assumption | omega) only [↓AyE, AyB, AyG, AyF, eq_self, Nat.reduceEqDiff, Nat.reduceMul, ↓reduceIte, reduceCtorEq, Nat.reduceLeDiff, ↓AyZ]
 have z : ∀ n : Nat, List.replicate n (TV.val (.int .i64 ((0 : Nat) : Int))) = (List.replicate n 0).map fun (n : Nat) => i64 (n : Int) := fun n => by rw [List.map_replicate]
 rw [z, z]
 refine Azr (fun q e H => ∃ i : Nat, q = 288 - i ∧ i ≤ 288 ∧ e = [(0, .os 1 0 0 [] 0 288 288), (1, .os 1 1 0 [] 0 32 32), (7, i64 ((288 : Nat) : Int)), (8, i64 (i : Int))] ∧ H = [A2r ((List.range i).map AUP ++ List.replicate (288 - i) 0) 288, A2r (List.replicate 32 0) 32]) 288 ?_ ?_
 ·exact ⟨0, rfl, by omega, rfl, rfl⟩
 ·rintro q e H ⟨i, rfl, hi, rfl, rfl⟩
  by_cases hlt : i < 288
  ·have h1 := AYg (f := AUP) hlt
   have h2 := AZ6 (f := AUP) hi
   have h3 := AZQ (L := []) (f := AUP) hlt
   generalize hL : (List.range i).map AUP ++ List.replicate (288 - i) 0 = L at *
   have fin : ∀ w : Nat, w = AUP i → (L.map fun (n : Nat) => i64 (n : Int)).set i (i64 (w : Int)) = ((List.range (i + 1)).map AUP ++ List.replicate (288 - (i + 1)) 0).map fun (n : Nat) => i64 (n : Int) := fun w hw => by rw [← h3, List.map_set, hw]
   by_cases c1 : i < 144
   ·have e : 8 = AUP i := by
     have h5 : ¬ (143 < i) := by omega
     have h6 : ¬ (255 < i) := by omega
     simp [AUP, h5, h6]
    simp -dsimp (disch := first | assumption | omega) only [↓AyE, AyB, AyG, AyF, eq_self, Nat.reduceEqDiff, ↓reduceIte, Nat.reduceAdd, reduceCtorEq, ↓AyZ, h1]
    exact AyL (288 - (i + 1)) (by omega) (by simp) ⟨i + 1, rfl, by omega, rfl, by rw [fin 8 e]⟩
   ·by_cases c2 : i < 256
    ·have e : 9 = AUP i := by
      have h5 : 143 < i := by omega
      simp [AUP, h5, c2]
     simp -dsimp (disch := first | assumption | omega) only [↓AyE, AyB, AyG, AyF, eq_self, Nat.reduceEqDiff, ↓reduceIte, Nat.reduceAdd, reduceCtorEq, ↓AyZ, h1]
     exact AyL (288 - (i + 1)) (by omega) (by simp) ⟨i + 1, rfl, by omega, rfl, by rw [fin 9 e]⟩
    ·by_cases c3 : i < 280
     ·have e : 7 = AUP i := by
       have : ¬ (i < 256) := c2
       have h5 : 255 < i := by omega
       simp [AUP, c2, c3, h5]
      simp -dsimp (disch := first | assumption | omega) only [↓AyE, AyB, AyG, AyF, eq_self, Nat.reduceEqDiff, ↓reduceIte, Nat.reduceAdd, reduceCtorEq, ↓AyZ, h1]
      exact AyL (288 - (i + 1)) (by omega) (by simp) ⟨i + 1, rfl, by omega, rfl, by rw [fin 7 e]⟩
     ·have e : 8 = AUP i := by simp [AUP, c2, c3]
      simp -dsimp (disch := first | assumption | omega) only [↓AyE, AyB, AyG, AyF, eq_self, Nat.reduceEqDiff, ↓reduceIte, Nat.reduceAdd, reduceCtorEq, ↓AyZ, h1]
      exact AyL (288 - (i + 1)) (by omega) (by simp) ⟨i + 1, rfl, by omega, rfl, by rw [fin 8 e]⟩
  ·have hie : i = 288 := by omega
   subst hie
   rw [Nat.sub_self, List.replicate_zero, List.append_nil, A4q]
   simp -dsimp (disch := first | assumption | omega) only [↓AyE, AyB, AyG, AyF, eq_self, Nat.reduceLT, Nat.reduceEqDiff, ↓reduceIte, reduceCtorEq, ↓AyZ]
   refine Azr (fun q e H => ∃ i : Nat, q = 32 - i ∧ i ≤ 32 ∧ e = [(0, .os 1 0 0 [] 0 288 288), (1, .os 1 1 0 [] 0 32 32), (34, i64 ((32 : Nat) : Int)), (35, i64 (i : Int))] ∧ H = [A2r ABz 288, A2r ((List.range i).map (fun _ => 5) ++ List.replicate (32 - i) 0) 32]) 32 ?_ ?_
   ·exact ⟨0, rfl, by omega, rfl, rfl⟩
   ·rintro q e H ⟨i, rfl, hi, rfl, rfl⟩
    by_cases hlt : i < 32
    ·have h1 := AYg (f := fun _ => 5) hlt
     have h2 := AZ6 (f := fun _ => 5) hi
     have h3 := AZQ (L := []) (f := fun _ => 5) hlt
     generalize hL : (List.range i).map (fun _ => 5) ++ List.replicate (32 - i) 0 = L at *
     have fin : (L.map fun (n : Nat) => i64 (n : Int)).set i (i64 ((5 : Nat) : Int)) = ((List.range (i + 1)).map (fun _ => 5) ++ List.replicate (32 - (i + 1)) 0).map fun (n : Nat) => i64 (n : Int) := by rw [← h3, List.map_set]
     simp -dsimp (disch := first | assumption | omega) only [↓AyE, AyB, AyG, AyF, eq_self, Nat.reduceEqDiff, ↓reduceIte, Nat.reduceAdd, reduceCtorEq, ↓AyZ, h1]
     exact AyL (32 - (i + 1)) (by omega) (by simp) ⟨i + 1, rfl, by omega, rfl, by rw [fin]⟩
    ·have hie : i = 32 := by omega
     subst hie
     rw [Nat.sub_self, List.replicate_zero, List.append_nil, A6z]
     simp -dsimp (disch := first | assumption | omega) only [↓AyE, AyB, AyG, AyF, eq_self, Nat.reduceLT, Nat.reduceEqDiff, ↓reduceIte, reduceCtorEq, ↓AyZ]
     refine A6d (by rfl) (by rfl) (by simp [AJE]) ?_
     refine A6d (by rfl) (by rfl) (by rw [List.length_map, AQx]; omega) ?_
     have t1 : List.take 32 (List.drop 0 (AJE.map fun (n : Nat) => i64 (n : Int))) = AJE.map fun (n : Nat) => i64 (n : Int) := by rw [List.drop_zero, List.take_of_length_le (by rw [List.length_map, AS6]; omega)]
     have t2 : List.take 288 (List.drop 0 (ABz.map fun (n : Nat) => i64 (n : Int))) = ABz.map fun (n : Nat) => i64 (n : Int) := by rw [List.drop_zero, List.take_of_length_le (by rw [List.length_map, AQx]; omega)]
     rw [t1, t2]
     simp -dsimp (disch := first | assumption | omega) only [↓AyE, AyB, AyG, AyF, eq_self, Nat.reduceEqDiff, ↓reduceIte, reduceCtorEq, ↓AyZ]
end Go.Proofs.YtfgljddikcghhaaDoor

