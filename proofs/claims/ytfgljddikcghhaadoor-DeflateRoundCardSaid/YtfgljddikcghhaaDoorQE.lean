/- What the proof of DeflateRoundCard stands on (texts merged; names shortened by a program): part 5. -/
import Derived.Test.YtfgljddikcghhaaDoorQD
import Derived.Test.YtfgljddikcghhaaDoorProg
import Derived.KernelRfl
namespace Go.Proofs.YtfgljddikcghhaaDoor
variable [AO]
set_option linter.unusedSectionVars false
set_option linter.unusedVariables false
set_option linter.defProp false
set_option maxRecDepth 100000


def VZ : Af := .seq (.draw 4 [mv_ 78 7,
  po_ 79 (.nilc (.t 78)),
  po_ 80 (.fieldA 5 5 (.t 79)),
  po_ 81 (.load false 1 (.t 80)),
  po_ 4 (.mov (.c (.slice none 0 0))),
  po_ 5 (.mov (ci_ 0)),
  mv_ 6 81] [4, 5, 6])
 (.ret)
def V3 : Af := .seq (.block 1 (.ops [mv_ 86 9,
  po_ 87 (.bin 36 .mul (.t 86) (.c (.int .u32 ((256 : Nat) : Int)))),
  mv_ 88 0,
  mv_ 89 8,
  mv_ 90 10,
  po_ 91 (.bin 3 .add (.t 89) (.t 90)),
  po_ 92 (.idxA 1 (.t 88) (.t 91)),
  po_ 93 (.load false 1 (.t 92)),
  po_ 94 (.conv .u32 (.t 93)),
  po_ 95 (.bin 36 .add (.t 87) (.t 94)),
  mv_ 9 95] [0, 7, 8, 9, 10]))
 (.ops [mv_ 84 10,
  po_ 85 (.bin 3 .add (.t 84) (ci_ 1)),
  mv_ 10 85] [0, 7, 8, 9, 10])
def Xa : Af := .seq (.seq (.ops [mv_ 82 10,
  po_ 83 (.bin 3 .lss (.t 82) (ci_ 4))] [0, 7, 8, 9, 10, 83])
 (.cond (.t 83)
 (.skip)
 (.exit 0)))
 V3
def Xc : Af := .block 0 (.loop [0, 7, 8, 9, 10] Xa)
def VQ : Af := .seq (.seq (.ops [mv_ 96 9,
  mv_ 97 7,
  po_ 98 (.nilc (.t 97)),
  po_ 99 (.fieldA 2 2 (.t 98)),
  po_ 100 (.load false 1 (.t 99)),
  so_ 101 (.call 20 [.t 100]),
  po_ 102 (.bin 36 .neq (.t 96) (.t 101))] [7, 8, 102])
 (.cond (.t 102)
 (.seq (.ops [po_ 4 (.mov (.c (.slice none 0 0))),
   po_ 5 (.mov (ci_ 0)),
   po_ 6 (.mov (ci_ 10))] [4, 5, 6])
  (.ret))
 (.skip)))
 (.seq (.ops [mv_ 103 7,
  po_ 104 (.nilc (.t 103)),
  po_ 105 (.fieldA 2 2 (.t 104)),
  po_ 106 (.load false 1 (.t 105)),
  mv_ 107 8,
  po_ 108 (.bin 3 .add (.t 107) (ci_ 4)),
  mv_ 4 106,
  mv_ 5 108,
  po_ 6 (.mov (ci_ 0))] [4, 5, 6])
 (.ret))
def VV : Af := .seq (.seq (.ops [po_ 10 (.mov (ci_ 0))] [0, 7, 8, 9, 10])
 Xc)
 VQ
def V5 : Af := .seq (.ops [po_ 9 (.mov (.c (.int .u32 ((0 : Nat) : Int))))] [0, 7, 8, 9])
 VV
def Wy : Af := .seq (.seq (.ops [mv_ 73 7,
  po_ 74 (.nilc (.t 73)),
  po_ 75 (.fieldA 5 5 (.t 74)),
  po_ 76 (.load false 1 (.t 75)),
  po_ 77 (.bin 3 .neq (.t 76) (ci_ 0))] [0, 7, 8, 77])
 (.cond (.t 77)
 VZ
 (.skip)))
 V5
def WR : Af := .seq (.seq (.ops [mv_ 58 7,
  po_ 59 (.nilc (.t 58)),
  po_ 60 (.fieldA 5 5 (.t 59)),
  po_ 61 (.load false 1 (.t 60)),
  po_ 62 (.bin 3 .eql (.t 61) (ci_ 0)),
  mv_ 63 62,
  ⟨some 64, .p (.mov (.t 0)), some ⟨63, true⟩⟩,
  ⟨some 65, .p (.lenV (.t 64)), some ⟨63, true⟩⟩,
  ⟨some 66, .p (.mov (.t 8)), some ⟨63, true⟩⟩,
  ⟨some 67, .p (.bin 3 .sub (.t 65) (.t 66)), some ⟨63, true⟩⟩,
  ⟨some 68, .p (.bin 3 .lss (.t 67) (ci_ 4)), some ⟨63, true⟩⟩,
  po_ 69 (.pick (.t 63) (.t 68) (.c (.bool false)))] [0, 7, 8, 69])
 (.cond (.t 69)
 (.ops [mv_ 70 7,
   po_ 71 (.nilc (.t 70)),
   po_ 72 (.fieldA 5 5 (.t 71)),
   ⟨none, .s (.store 1 (.t 72) (ci_ 10)), none⟩] [0, 7, 8])
 (.skip)))
 Wy
def TF : Af := .seq (.ops [mv_ 52 7,
  po_ 53 (.nilc (.t 52)),
  po_ 54 (.fieldA 1 1 (.t 53)),
  po_ 55 (.load false 1 (.t 54)),
  po_ 56 (.bin 3 .add (.t 55) (ci_ 7)),
  po_ 57 (.bin 3 .quo (.t 56) (ci_ 8)),
  mv_ 8 57] [0, 7, 8])
 WR
def Ud : Af := .seq (.ops [mv_ 49 0,
  mv_ 50 1,
  so_ 51 (.call 19 [.t 49, .t 50]),
  mv_ 7 51] [0, 7])
 TF
def Uh : Af := .seq (.seq (.draw 23 [mv_ 11 0,
  po_ 12 (.lenV (.t 11)),
  po_ 13 (.bin 3 .lss (.t 12) (ci_ 2)),
  mv_ 14 13,
  ⟨some 15, .p (.mov (.t 0)), some ⟨14, false⟩⟩,
  ⟨some 16, .p (.idxA 1 (.t 15) (ci_ 0)), some ⟨14, false⟩⟩,
  ⟨some 17, .p (.load false 1 (.t 16)), some ⟨14, false⟩⟩,
  ⟨some 18, .p (.bin 5 .rem (.t 17) (.c (.int .u8 ((16 : Nat) : Int)))), some ⟨14, false⟩⟩,
  ⟨some 19, .p (.bin 5 .neq (.t 18) (.c (.int .u8 ((8 : Nat) : Int)))), some ⟨14, false⟩⟩,
  po_ 20 (.pick (.t 14) (.c (.bool true)) (.t 19)),
  mv_ 21 20,
  ⟨some 22, .p (.mov (.t 0)), some ⟨21, false⟩⟩,
  ⟨some 23, .p (.idxA 1 (.t 22) (ci_ 0)), some ⟨21, false⟩⟩,
  ⟨some 24, .p (.load false 1 (.t 23)), some ⟨21, false⟩⟩,
  ⟨some 25, .p (.bin 5 .quo (.t 24) (.c (.int .u8 ((16 : Nat) : Int)))), some ⟨21, false⟩⟩,
  ⟨some 26, .p (.bin 5 .gtr (.t 25) (.c (.int .u8 ((7 : Nat) : Int)))), some ⟨21, false⟩⟩,
  po_ 27 (.pick (.t 21) (.c (.bool true)) (.t 26)),
  mv_ 28 27,
  ⟨some 29, .p (.mov (.t 0)), some ⟨28, false⟩⟩,
  ⟨some 30, .p (.idxA 1 (.t 29) (ci_ 0)), some ⟨28, false⟩⟩,
  ⟨some 31, .p (.load false 1 (.t 30)), some ⟨28, false⟩⟩,
  ⟨some 32, .p (.conv .i64 (.t 31)), some ⟨28, false⟩⟩,
  ⟨some 33, .p (.bin 3 .mul (.t 32) (ci_ 256)), some ⟨28, false⟩⟩,
  ⟨some 34, .p (.mov (.t 0)), some ⟨28, false⟩⟩,
  ⟨some 35, .p (.idxA 1 (.t 34) (ci_ 1)), some ⟨28, false⟩⟩,
  ⟨some 36, .p (.load false 1 (.t 35)), some ⟨28, false⟩⟩,
  ⟨some 37, .p (.conv .i64 (.t 36)), some ⟨28, false⟩⟩,
  ⟨some 38, .p (.bin 3 .add (.t 33) (.t 37)), some ⟨28, false⟩⟩,
  ⟨some 39, .p (.bin 3 .rem (.t 38) (ci_ 31)), some ⟨28, false⟩⟩,
  ⟨some 40, .p (.bin 3 .neq (.t 39) (ci_ 0)), some ⟨28, false⟩⟩,
  po_ 41 (.pick (.t 28) (.c (.bool true)) (.t 40)),
  mv_ 42 41,
  ⟨some 43, .p (.mov (.t 0)), some ⟨42, false⟩⟩,
  ⟨some 44, .p (.idxA 1 (.t 43) (ci_ 1)), some ⟨42, false⟩⟩,
  ⟨some 45, .p (.load false 1 (.t 44)), some ⟨42, false⟩⟩,
  ⟨some 46, .p (.bin 5 .and (.t 45) (.c (.int .u8 ((32 : Nat) : Int)))), some ⟨42, false⟩⟩,
  ⟨some 47, .p (.bin 5 .neq (.t 46) (.c (.int .u8 ((0 : Nat) : Int)))), some ⟨42, false⟩⟩,
  po_ 48 (.pick (.t 42) (.c (.bool true)) (.t 47))] [0, 1, 48])
 (.cond (.t 48)
 (.seq (.ops [po_ 4 (.mov (.c (.slice none 0 0))),
   po_ 5 (.mov (ci_ 0)),
   po_ 6 (.mov (ci_ 10))] [4, 5, 6])
  (.ret))
 (.skip)))
 Ud
def Adp : Af := .seq (.ops [po_ 4 (.mov (.c (.slice none 0 0))),
  po_ 5 (.mov (ci_ 0)),
  po_ 6 (.mov (ci_ 0))] [0, 1])
 Uh
def Ac9 : List VR := [.tmp 4, .tmp 5, .tmp 6]
theorem Aje : Tryd.f10.body.bind (trC Tryd.prog Tryd.f10.ntmps) = some (er Adp) := by kernel_rfl
theorem Ajh : trR Tryd.prog Tryd.f10.results.toList = some Ac9 := by kernel_rfl
def Aeb := Aa VZ.eq_1
def Ad7 := Aa V3.eq_1
def AdT := Aa Xa.eq_1
def AdR := Aa Xc.eq_1
def AdK := Aa VQ.eq_1
def Ad2 := Aa VV.eq_1
def AdX := Aa V5.eq_1
def Aed := Aa Wy.eq_1
def AdM := Aa WR.eq_1
def Ab1 := Aa TF.eq_1
def Acl := Aa Ud.eq_1
def AbY := Aa Uh.eq_1
def AhD := Aa Adp.eq_1
theorem Ahr {K : TV → Prop} {e : Env} {H : List Ob} : res Ac9 e H K = res [.tmp 4, .tmp 5, .tmp 6] e H K := Ad rfl
def Bc := (And.intro (And.intro (And.intro (And.intro @Aeb @Ad7) (And.intro @AdT @AdR)) (And.intro (And.intro @AdK @Ad2) (And.intro @AdX @Aed))) (And.intro (And.intro (And.intro @AdM @Ab1) (And.intro @Acl @AbY)) (And.intro @AhD @Ahr)))
def Aiv := EK 109 Tryd.func10 Aje Ajh rfl

def YI : Af := .seq (.ops [so_ 73 (.call 37 []),
  mv_ 72 73,
  po_ 74 (.ext 0 (.t 72)),
  po_ 75 (.ext 1 (.t 72)),
  so_ 8 (.alloc (.agg [.val (.slice none 0 0), .val (.slice none 0 0)])),
  so_ 9 (.alloc (.agg [.val (.slice none 0 0), .val (.slice none 0 0)])),
  ⟨none, .s (.store 2 (.t 8) (.t 74)), none⟩,
  ⟨none, .s (.store 2 (.t 9) (.t 75)), none⟩] [5, 6, 8, 9])
 (.ops [mv_ 76 5,
  po_ 77 (.load true 2 (.t 8)),
  po_ 78 (.load true 2 (.t 9)),
  so_ 79 (.call 38 [.t 76, .t 77, .t 78])] [5, 6])
def YD : Af := .seq (.ops [mv_ 39 5,
  so_ 40 (.call 39 [.t 39]),
  mv_ 38 40,
  po_ 41 (.ext 0 (.t 38)),
  po_ 42 (.ext 1 (.t 38)),
  po_ 43 (.ext 2 (.t 38)),
  so_ 10 (.alloc (.agg [.val (.slice none 0 0), .val (.slice none 0 0)])),
  so_ 11 (.alloc (.agg [.val (.slice none 0 0), .val (.slice none 0 0)])),
  ⟨none, .s (.store 2 (.t 10) (.t 41)), none⟩,
  ⟨none, .s (.store 2 (.t 11) (.t 42)), none⟩,
  mv_ 12 43] [5, 6, 10, 11, 12])
 (.seq (.seq (.ops [mv_ 44 12,
  po_ 45 (.un .not (.t 44))] [5, 6, 10, 11, 45])
 (.cond (.t 45)
 (.ops [mv_ 46 5,
   so_ 47 (.call 35 [.t 46, .c (.int .i64 ((10 : Nat) : Int))])] [5, 6, 10, 11])
 (.skip)))
 (.ops [mv_ 48 5,
  po_ 49 (.load true 2 (.t 10)),
  po_ 50 (.load true 2 (.t 11)),
  so_ 51 (.call 38 [.t 48, .t 49, .t 50])] [5, 6]))
def YA : Af := .cond (.t 69)
 YI
 YD
def YE : Af := .seq (.ops [mv_ 70 7,
  po_ 71 (.bin 3 .eql (.t 70) (ci_ 1)),
  mv_ 69 71] [5, 6, 69])
 YA
def YG : Af := .cond (.t 64)
 (.ops [mv_ 67 5,
   so_ 68 (.call 36 [.t 67])] [5, 6])
 YE
def YC : Af := .seq (.ops [mv_ 65 7,
  po_ 66 (.bin 3 .eql (.t 65) (ci_ 0)),
  mv_ 64 66] [5, 6, 7, 64])
 YG
def YL : Af := .cond (.t 52)
 (.ops [mv_ 62 5,
   so_ 63 (.call 35 [.t 62, .c (.int .i64 ((10 : Nat) : Int))])] [5, 6])
 YC
def Yz : Af := .block 2 (.seq (.ops [mv_ 53 5,
  po_ 54 (.nilc (.t 53)),
  po_ 55 (.fieldA 5 5 (.t 54)),
  po_ 56 (.load false 1 (.t 55)),
  po_ 57 (.bin 3 .neq (.t 56) (ci_ 0)),
  mv_ 58 57,
  ⟨some 59, .p (.mov (.t 7)), some ⟨58, false⟩⟩,
  ⟨some 60, .p (.bin 3 .eql (.t 59) (ci_ 3)), some ⟨58, false⟩⟩,
  po_ 61 (.pick (.t 58) (.c (.bool true)) (.t 60)),
  mv_ 52 61] [5, 6, 7, 52])
 YL)
def Yx : Af := .seq (.ops [mv_ 36 5,
  so_ 37 (.call 34 [.t 36, .c (.int .i64 ((2 : Nat) : Int))]),
  mv_ 7 37] [5, 6, 7])
 Yz
def WE : Af := .block 1 (.seq (.ops [mv_ 34 5,
  so_ 35 (.call 34 [.t 34, .c (.int .i64 ((1 : Nat) : Int))]),
  mv_ 6 35] [5, 6])
 Yx)
def Wn : Af := .seq (.seq (.ops [mv_ 25 6,
  po_ 26 (.bin 3 .eql (.t 25) (ci_ 0)),
  mv_ 27 26,
  ⟨some 28, .p (.mov (.t 5)), some ⟨27, true⟩⟩,
  ⟨some 29, .p (.nilc (.t 28)), some ⟨27, true⟩⟩,
  ⟨some 30, .p (.fieldA 5 5 (.t 29)), some ⟨27, true⟩⟩,
  ⟨some 31, .p (.load false 1 (.t 30)), some ⟨27, true⟩⟩,
  ⟨some 32, .p (.bin 3 .eql (.t 31) (ci_ 0)), some ⟨27, true⟩⟩,
  po_ 33 (.pick (.t 27) (.t 32) (.c (.bool false)))] [5, 33])
 (.cond (.t 33)
 (.skip)
 (.exit 0)))
 WE
def VJ : Af := .seq (.ops [mv_ 80 5,
  mv_ 4 80] [4])
 (.ret)
def V7 : Af := .seq (.block 0 (.loop [5, 6] Wn))
 VJ
def Xf : Af := .seq (.ops [po_ 6 (.mov (ci_ 0))] [5, 6])
 V7
def V6 : Af := .seq (.ops [mv_ 13 0,
  mv_ 14 1,
  mv_ 15 0,
  po_ 16 (.idxA 1 (.t 15) (ci_ 0)),
  po_ 17 (.load false 1 (.t 16)),
  po_ 18 (.conv .i64 (.t 17)),
  po_ 19 (.bin 3 .quo (.t 18) (ci_ 16)),
  po_ 20 (.bin 3 .rem (.t 19) (ci_ 8)),
  po_ 21 (.bin 3 .add (.t 20) (ci_ 8)),
  po_ 22 (.bin 3 .shl (ci_ 1) (.t 21)),
  ⟨some 23, .p (.build [.val (.slice none 0 0), .val (.int .i64 ((0 : Nat) : Int)), .val (.slice none 0 0), .val (.int .i64 ((0 : Nat) : Int)), .val (.int .i64 ((0 : Nat) : Int)), .val (.int .i64 ((0 : Nat) : Int))] [1, 1, 1, 1, 1, 1] [⟨0, .t 13⟩, ⟨1, .c (.int .i64 ((16 : Nat) : Int))⟩, ⟨3, .t 14⟩, ⟨4, .t 22⟩]), none⟩,
  so_ 24 (.box (.t 23)),
  mv_ 5 24] [5])
 Xf
def AeX : Af := .seq (.ops [po_ 4 (.mov (.c (.pointer none)))] [0, 1])
 V6
def AeP : List VR := [.tmp 4]
theorem Akf : Tryd.f19.body.bind (trC Tryd.prog Tryd.f19.ntmps) = some (er AeX) := by kernel_rfl
theorem Akn : trR Tryd.prog Tryd.f19.results.toList = some AeP := by kernel_rfl
def Afa := Aa YI.eq_1
def AeS := Aa YD.eq_1
def AeG := Aa YA.eq_1
def Afd := Aa YE.eq_1
def Aeu := Aa YG.eq_1
def AeZ := Aa YC.eq_1
def Ae7 := Aa YL.eq_1
def Afc := Aa Yz.eq_1
def AeQ := Aa Yx.eq_1
def AdC := Aa WE.eq_1
def Aei := Aa Wn.eq_1
def Aec := Aa VJ.eq_1
def Ad0 := Aa V7.eq_1
def AdL := Aa Xf.eq_1
def Ad1 := Aa V6.eq_1
def Aii := Aa AeX.eq_1
theorem Aiu {K : TV → Prop} {e : Env} {H : List Ob} : res AeP e H K = res [.tmp 4] e H K := Ad rfl
def BK := (And.intro (And.intro (And.intro (And.intro (And.intro @Afa @AeS) (And.intro @AeG @Afd)) (And.intro (And.intro @Aeu @AeZ) (And.intro @Ae7 @Afc))) (And.intro (And.intro (And.intro @AeQ @AdC) (And.intro @Aei @Aec)) (And.intro (And.intro @Ad0 @AdL) (And.intro @Ad1 @Aii)))) @Aiu)
def Ajp := EK 81 Tryd.func19 Akf Akn rfl

def L6 : Af := .seq (.ops [mv_ 45 5,
  mv_ 46 7,
  mv_ 47 6,
  po_ 48 (.bin 3 .shl (.t 46) (.t 47)),
  po_ 49 (.bin 3 .add (.t 45) (.t 48)),
  mv_ 5 49] [0, 1, 5, 6])
 (.ops [mv_ 50 0,
  mv_ 51 0,
  po_ 52 (.nilc (.t 51)),
  po_ 53 (.fieldA 1 1 (.t 52)),
  po_ 54 (.load false 1 (.t 53)),
  po_ 55 (.bin 3 .add (.t 54) (ci_ 1)),
  po_ 56 (.nilc (.t 50)),
  po_ 57 (.fieldA 1 1 (.t 56)),
  ⟨none, .s (.store 1 (.t 57) (.t 55)), none⟩] [0, 1, 5, 6])
def NP : Af := .seq (.draw 12 [mv_ 26 0,
  po_ 27 (.nilc (.t 26)),
  po_ 28 (.fieldA 0 0 (.t 27)),
  po_ 29 (.load false 1 (.t 28)),
  mv_ 30 0,
  po_ 31 (.nilc (.t 30)),
  po_ 32 (.fieldA 1 1 (.t 31)),
  po_ 33 (.load false 1 (.t 32)),
  po_ 34 (.bin 3 .quo (.t 33) (ci_ 8)),
  po_ 35 (.idxA 1 (.t 29) (.t 34)),
  po_ 36 (.load false 1 (.t 35)),
  po_ 37 (.conv .i64 (.t 36)),
  mv_ 38 0,
  po_ 39 (.nilc (.t 38)),
  po_ 40 (.fieldA 1 1 (.t 39)),
  po_ 41 (.load false 1 (.t 40)),
  po_ 42 (.bin 3 .rem (.t 41) (ci_ 8)),
  po_ 43 (.bin 3 .shr (.t 37) (.t 42)),
  po_ 44 (.bin 3 .and (.t 43) (ci_ 1)),
  mv_ 7 44] [0, 1, 5, 6, 7])
 L6
def ND : Af := .seq (.block 1 (.seq (.seq (.draw 4 [mv_ 13 0,
  po_ 14 (.nilc (.t 13)),
  po_ 15 (.fieldA 1 1 (.t 14)),
  po_ 16 (.load false 1 (.t 15)),
  mv_ 17 0,
  po_ 18 (.nilc (.t 17)),
  po_ 19 (.fieldA 0 0 (.t 18)),
  po_ 20 (.load false 1 (.t 19)),
  po_ 21 (.lenV (.t 20)),
  po_ 22 (.bin 3 .mul (ci_ 8) (.t 21)),
  po_ 23 (.bin 3 .geq (.t 16) (.t 22))] [0, 1, 5, 6, 23])
 (.cond (.t 23)
 (.seq (.ops [mv_ 24 0,
   so_ 25 (.call 35 [.t 24, .c (.int .i64 ((10 : Nat) : Int))])] [])
  (.seq (.ops [po_ 4 (.mov (ci_ 0))] [4])
  (.ret)))
 (.skip)))
 NP))
 (.ops [mv_ 11 6,
  po_ 12 (.bin 3 .add (.t 11) (ci_ 1)),
  mv_ 6 12] [0, 1, 5, 6])
def MS : Af := .seq (.seq (.ops [mv_ 8 6,
  mv_ 9 1,
  po_ 10 (.bin 3 .lss (.t 8) (.t 9))] [0, 1, 5, 6, 10])
 (.cond (.t 10)
 (.skip)
 (.exit 0)))
 ND
def NE : Af := .block 0 (.loop [0, 1, 5, 6] MS)
def MN : Af := .seq (.ops [mv_ 58 5,
  mv_ 4 58] [4])
 (.ret)
def L9 : Af := .seq (.seq (.ops [po_ 6 (.mov (ci_ 0))] [0, 1, 5, 6])
 NE)
 MN
def NU : Af := .seq (.ops [po_ 5 (.mov (ci_ 0))] [0, 1, 5])
 L9
def UW : Af := .seq (.ops [po_ 4 (.mov (ci_ 0))] [0, 1])
 NU
def TY : List VR := [.tmp 4]
theorem AeM : Tryd.f34.body.bind (trC Tryd.prog Tryd.f34.ntmps) = some (er UW) := by kernel_rfl
theorem AeT : trR Tryd.prog Tryd.f34.results.toList = some TY := by kernel_rfl
def XL := Aa L6.eq_1
def Yi := Aa NP.eq_1
def XE := Aa ND.eq_1
def XQ := Aa MS.eq_1
def XX := Aa NE.eq_1
def Xy := Aa MN.eq_1
def Yq := Aa L9.eq_1
def X4 := Aa NU.eq_1
def Acu := Aa UW.eq_1
theorem Acx {K : TV → Prop} {e : Env} {H : List Ob} : res TY e H K = res [.tmp 4] e H K := Ad rfl
def Dn := (And.intro (And.intro (And.intro (And.intro @XL @Yi) (And.intro @XE @XQ)) (And.intro (And.intro @XX @Xy) (And.intro @Yq @X4))) (And.intro @Acu @Acx))
def Ad6 := EK 59 Tryd.func34 AeM AeT rfl

def UX : Af := .seq (.ops [mv_ 4 0,
  po_ 5 (.nilc (.t 4)),
  po_ 6 (.fieldA 5 5 (.t 5)),
  po_ 7 (.load false 1 (.t 6)),
  po_ 8 (.bin 3 .eql (.t 7) (ci_ 0))] [0, 1, 8])
 (.cond (.t 8)
 (.ops [mv_ 9 0,
   mv_ 10 1,
   po_ 11 (.nilc (.t 9)),
   po_ 12 (.fieldA 5 5 (.t 11)),
   ⟨none, .s (.store 1 (.t 12) (.t 10)), none⟩] [])
 (.skip))
def Ut : List VR := []
theorem Aes : Tryd.f35.body.bind (trC Tryd.prog Tryd.f35.ntmps) = some (er UX) := by kernel_rfl
theorem Ae2 : trR Tryd.prog Tryd.f35.results.toList = some Ut := by kernel_rfl
def AbV := Aa UX.eq_1
theorem AcK {K : TV → Prop} {e : Env} {H : List Ob} : res Ut e H K = res [] e H K := Ad rfl
def UL := (And.intro @AbV @AcK)
def AdE := EK 13 Tryd.func35 Aes Ae2 rfl

def JS : Af := .seq (.block 1 (.ops [mv_ 54 0,
  mv_ 55 0,
  po_ 56 (.nilc (.t 55)),
  po_ 57 (.fieldA 0 0 (.t 56)),
  po_ 58 (.load false 1 (.t 57)),
  mv_ 59 4,
  mv_ 60 5,
  po_ 61 (.bin 3 .add (.t 59) (.t 60)),
  po_ 62 (.idxA 1 (.t 58) (.t 61)),
  po_ 63 (.load false 1 (.t 62)),
  so_ 64 (.call 53 [.t 54, .t 63])] [0, 2, 4, 5]))
 (.ops [mv_ 52 5,
  po_ 53 (.bin 3 .add (.t 52) (ci_ 1)),
  mv_ 5 53] [0, 2, 4, 5])
def Jk : Af := .seq (.seq (.ops [mv_ 49 5,
  mv_ 50 2,
  po_ 51 (.bin 3 .lss (.t 49) (.t 50))] [0, 2, 4, 5, 51])
 (.cond (.t 51)
 (.skip)
 (.exit 0)))
 JS
def JK : Af := .block 0 (.loop [0, 2, 4, 5] Jk)
def Jy : Af := .ops [mv_ 65 0,
  mv_ 66 0,
  po_ 67 (.nilc (.t 66)),
  po_ 68 (.fieldA 1 1 (.t 67)),
  po_ 69 (.load false 1 (.t 68)),
  mv_ 70 2,
  po_ 71 (.bin 3 .mul (ci_ 8) (.t 70)),
  po_ 72 (.bin 3 .add (.t 69) (.t 71)),
  po_ 73 (.nilc (.t 65)),
  po_ 74 (.fieldA 1 1 (.t 73)),
  ⟨none, .s (.store 1 (.t 74) (.t 72)), none⟩] []
def JR : Af := .seq (.seq (.ops [po_ 5 (.mov (ci_ 0))] [0, 2, 4, 5])
 JK)
 Jy
def Ju : Af := .seq (.seq (.ops [mv_ 25 0,
  po_ 26 (.nilc (.t 25)),
  po_ 27 (.fieldA 5 5 (.t 26)),
  po_ 28 (.load false 1 (.t 27)),
  po_ 29 (.bin 3 .neq (.t 28) (ci_ 0)),
  mv_ 30 29,
  ⟨some 31, .p (.mov (.t 2)), some ⟨30, false⟩⟩,
  ⟨some 32, .p (.mov (.t 3)), some ⟨30, false⟩⟩,
  ⟨some 33, .p (.bin 3 .add (.t 31) (.t 32)), some ⟨30, false⟩⟩,
  ⟨some 34, .p (.bin 3 .neq (.t 33) (ci_ 65535)), some ⟨30, false⟩⟩,
  po_ 35 (.pick (.t 30) (.c (.bool true)) (.t 34)),
  mv_ 36 35,
  ⟨some 37, .p (.mov (.t 2)), some ⟨36, false⟩⟩,
  ⟨some 38, .p (.mov (.t 0)), some ⟨36, false⟩⟩,
  ⟨some 39, .p (.nilc (.t 38)), some ⟨36, false⟩⟩,
  ⟨some 40, .p (.fieldA 0 0 (.t 39)), some ⟨36, false⟩⟩,
  ⟨some 41, .p (.load false 1 (.t 40)), some ⟨36, false⟩⟩,
  ⟨some 42, .p (.lenV (.t 41)), some ⟨36, false⟩⟩,
  ⟨some 43, .p (.mov (.t 4)), some ⟨36, false⟩⟩,
  ⟨some 44, .p (.bin 3 .sub (.t 42) (.t 43)), some ⟨36, false⟩⟩,
  ⟨some 45, .p (.bin 3 .gtr (.t 37) (.t 44)), some ⟨36, false⟩⟩,
  po_ 46 (.pick (.t 36) (.c (.bool true)) (.t 45))] [0, 2, 4, 46])
 (.cond (.t 46)
 (.seq (.ops [mv_ 47 0,
   so_ 48 (.call 35 [.t 47, .c (.int .i64 ((10 : Nat) : Int))])] [])
  (.ret))
 (.skip)))
 JR
def JC : Af := .seq (.ops [mv_ 20 0,
  po_ 21 (.nilc (.t 20)),
  po_ 22 (.fieldA 1 1 (.t 21)),
  po_ 23 (.load false 1 (.t 22)),
  po_ 24 (.bin 3 .quo (.t 23) (ci_ 8)),
  mv_ 4 24] [0, 2, 3, 4])
 Ju
def JV : Af := .seq (.ops [mv_ 18 0,
  so_ 19 (.call 34 [.t 18, .c (.int .i64 ((16 : Nat) : Int))]),
  mv_ 3 19] [0, 2, 3])
 JC
def JB : Af := .seq (.ops [mv_ 16 0,
  so_ 17 (.call 34 [.t 16, .c (.int .i64 ((16 : Nat) : Int))]),
  mv_ 2 17] [0, 2])
 JV
def Oy : Af := .seq (.ops [mv_ 6 0,
  mv_ 7 0,
  po_ 8 (.nilc (.t 7)),
  po_ 9 (.fieldA 1 1 (.t 8)),
  po_ 10 (.load false 1 (.t 9)),
  po_ 11 (.bin 3 .add (.t 10) (ci_ 7)),
  po_ 12 (.bin 3 .quo (.t 11) (ci_ 8)),
  po_ 13 (.bin 3 .mul (.t 12) (ci_ 8)),
  po_ 14 (.nilc (.t 6)),
  po_ 15 (.fieldA 1 1 (.t 14)),
  ⟨none, .s (.store 1 (.t 15) (.t 13)), none⟩] [0])
 JB
def O3 : List VR := []
theorem Ab8 : Tryd.f36.body.bind (trC Tryd.prog Tryd.f36.ntmps) = some (er Oy) := by kernel_rfl
theorem Ack : trR Tryd.prog Tryd.f36.results.toList = some O3 := by kernel_rfl
def Vm := Aa JS.eq_1
def VG := Aa Jk.eq_1
def Vj := Aa JK.eq_1
def Vb := Aa Jy.eq_1
def Vr := Aa JR.eq_1
def U8 := Aa Ju.eq_1
def Ve := Aa JC.eq_1
def VH := Aa JV.eq_1
def U9 := Aa JB.eq_1
def Y4 := Aa Oy.eq_1
theorem Zl {K : TV → Prop} {e : Env} {H : List Ob} : res O3 e H K = res [] e H K := Ad rfl
def AQ := (And.intro (And.intro (And.intro (And.intro @Vm @VG) (And.intro @Vj @Vb)) (And.intro (And.intro @Vr @U8) (And.intro @Ve @VH))) (And.intro (And.intro @U9 @Y4) @Zl))
def AaR := EK 75 Tryd.func36 Ab8 Ack rfl

def Abd : Af := .seq (.seq (.ops [mv_ 15 3,
  po_ 16 (.bin 3 .gtr (.t 15) (ci_ 143)),
  mv_ 17 16,
  ⟨some 18, .p (.mov (.t 3)), some ⟨17, true⟩⟩,
  ⟨some 19, .p (.bin 3 .lss (.t 18) (ci_ 256)), some ⟨17, true⟩⟩,
  po_ 20 (.pick (.t 17) (.t 19) (.c (.bool false)))] [0, 1, 2, 3, 4, 20])
 (.cond (.t 20)
 (.ops [po_ 4 (.mov (ci_ 9))] [0, 1, 2, 3, 4])
 (.skip)))
 (.seq (.seq (.ops [mv_ 21 3,
  po_ 22 (.bin 3 .gtr (.t 21) (ci_ 255)),
  mv_ 23 22,
  ⟨some 24, .p (.mov (.t 3)), some ⟨23, true⟩⟩,
  ⟨some 25, .p (.bin 3 .lss (.t 24) (ci_ 280)), some ⟨23, true⟩⟩,
  po_ 26 (.pick (.t 23) (.t 25) (.c (.bool false)))] [0, 1, 2, 3, 4, 26])
 (.cond (.t 26)
 (.ops [po_ 4 (.mov (ci_ 7))] [0, 1, 2, 3, 4])
 (.skip)))
 (.ops [mv_ 27 2,
  mv_ 28 4,
  ⟨some 29, .s (.bslice 1 1 (.val (.int .i64 ((0 : Nat) : Int))) [⟨0, .t 28⟩]), none⟩,
  so_ 30 (.app 1 8 3 (.t 27) (.t 29)),
  mv_ 2 30] [0, 1, 2, 3]))
def ZQ : Af := .seq (.block 1 (.seq (.ops [po_ 4 (.mov (ci_ 8))] [0, 1, 2, 3, 4])
 Abd))
 (.ops [mv_ 13 3,
  po_ 14 (.bin 3 .add (.t 13) (ci_ 1)),
  mv_ 3 14] [0, 1, 2, 3])
def Abg : Af := .seq (.seq (.ops [mv_ 11 3,
  po_ 12 (.bin 3 .lss (.t 11) (ci_ 288))] [0, 1, 2, 3, 12])
 (.cond (.t 12)
 (.skip)
 (.exit 0)))
 ZQ
def Abc : Af := .block 0 (.own 2 1 (.loop [0, 1, 2, 3] Abg))
def AbB : Af := .seq (.seq (.ops [mv_ 31 6,
  po_ 32 (.bin 3 .lss (.t 31) (ci_ 32))] [0, 1, 2, 5, 6, 32])
 (.cond (.t 32)
 (.skip)
 (.exit 2)))
 (.seq (.block 3 (.ops [mv_ 35 5,
  ⟨some 36, .s (.bslice 1 1 (.val (.int .i64 ((0 : Nat) : Int))) [⟨0, .c (.int .i64 ((5 : Nat) : Int))⟩]), none⟩,
  so_ 37 (.app 1 8 3 (.t 35) (.t 36)),
  mv_ 5 37] [0, 1, 2, 5, 6]))
 (.ops [mv_ 33 6,
  po_ 34 (.bin 3 .add (.t 33) (ci_ 1)),
  mv_ 6 34] [0, 1, 2, 5, 6]))
def AbJ : Af := .frz 5 (.frz 2 (.seq (.ops [mv_ 39 2,
  so_ 40 (.call 54 [.t 39, .c (.bool false), .c (.bool false)]),
  mv_ 38 40,
  po_ 41 (.ext 0 (.t 38)),
  po_ 42 (.ext 1 (.t 38)),
  so_ 7 (.alloc (.agg [.val (.slice none 0 0), .val (.slice none 0 0)])),
  ⟨none, .s (.store 2 (.t 7) (.t 41)), none⟩,
  mv_ 8 42] [0, 1, 5, 7])
 (.seq (.ops [mv_ 44 5,
  so_ 45 (.call 54 [.t 44, .c (.bool false), .c (.bool false)]),
  mv_ 43 45,
  po_ 46 (.ext 0 (.t 43)),
  po_ 47 (.ext 1 (.t 43)),
  so_ 9 (.alloc (.agg [.val (.slice none 0 0), .val (.slice none 0 0)])),
  ⟨none, .s (.store 2 (.t 9) (.t 46)), none⟩,
  mv_ 10 47] [0, 1, 7, 9])
 (.seq (.sdraw 2 [po_ 48 (.load true 2 (.t 7)),
  po_ 49 (.load true 2 (.t 9)),
  ⟨none, .s (.store 2 (.t 0) (.t 48)), none⟩,
  ⟨none, .s (.store 2 (.t 1) (.t 49)), none⟩] [0, 1])
 (.ret)))))
def Aa2 : Af := .seq (.seq (.ops [po_ 6 (.mov (ci_ 0))] [0, 1, 2, 5, 6])
 (.block 2 (.own 5 1 (.loop [0, 1, 2, 5, 6] AbB))))
 AbJ
def Aai : Af := .seq (.ops [po_ 5 (.mov (.c (.slice none 0 0)))] [0, 1, 2, 5])
 Aa2
def ZZ : Af := .seq (.seq (.ops [po_ 3 (.mov (ci_ 0))] [0, 1, 2, 3])
 Abc)
 Aai
def YH : Af := .seq (.ops [po_ 2 (.mov (.c (.slice none 0 0)))] [0, 1, 2])
 ZZ
def AgS : Af := .seq (.ops [so_ 0 (.alloc (.agg [.val (.slice none 0 0), .val (.slice none 0 0)])),
  so_ 1 (.alloc (.agg [.val (.slice none 0 0), .val (.slice none 0 0)]))] [0, 1])
 YH
def AgR : List VR := [.cell 0 true 2, .cell 1 true 2]
theorem Al4 : Tryd.f37.body.bind (trC Tryd.prog Tryd.f37.ntmps) = some (er AgS) := by kernel_rfl
theorem AlB : trR Tryd.prog Tryd.f37.results.toList = some AgR := by kernel_rfl
def AfO := Aa Abd.eq_1
def Af6 := Aa ZQ.eq_1
def AgE := Aa Abg.eq_1
def AfC := Aa Abc.eq_1
def AgA := Aa AbB.eq_1
def Agt := Aa AbJ.eq_1
def Agr := Aa Aa2.eq_1
def Aft := Aa Aai.eq_1
def AfL := Aa ZZ.eq_1
def Ae1 := Aa YH.eq_1
def Ajb := Aa AgS.eq_1
theorem Ai9 {K : TV → Prop} {e : Env} {H : List Ob} : res AgR e H K = res [.cell 0 true 2, .cell 1 true 2] e H K := Ad rfl
def Di := (And.intro (And.intro (And.intro (And.intro @AfO @Af6) (And.intro @AgE @AfC)) (And.intro (And.intro @AgA @Agt) (And.intro @Agr @Aft))) (And.intro (And.intro @AfL @Ae1) (And.intro @Ajb @Ai9)))
def Aku := EK 50 Tryd.func37 Al4 AlB rfl

def Jc : Af := .draw 5 [mv_ 108 0,
  mv_ 109 0,
  po_ 110 (.nilc (.t 109)),
  po_ 111 (.fieldA 2 2 (.t 110)),
  po_ 112 (.load false 1 (.t 111)),
  mv_ 113 0,
  po_ 114 (.nilc (.t 113)),
  po_ 115 (.fieldA 2 2 (.t 114)),
  po_ 116 (.load false 1 (.t 115)),
  po_ 117 (.lenV (.t 116)),
  mv_ 118 11,
  po_ 119 (.bin 3 .sub (.t 117) (.t 118)),
  po_ 120 (.idxA 1 (.t 112) (.t 119)),
  po_ 121 (.load false 1 (.t 120)),
  so_ 122 (.call 53 [.t 108, .t 121])] [0, 4, 5, 9, 11, 12]
def IX : Af := .cond (.t 107)
 Jc
 (.skip)
def Ik : Af := .seq (.block 3 (.seq (.ops [mv_ 103 0,
  po_ 104 (.nilc (.t 103)),
  po_ 105 (.fieldA 5 5 (.t 104)),
  po_ 106 (.load false 1 (.t 105)),
  po_ 107 (.bin 3 .eql (.t 106) (ci_ 0))] [0, 4, 5, 9, 11, 12, 107])
 IX))
 (.ops [mv_ 101 12,
  po_ 102 (.bin 3 .add (.t 101) (ci_ 1)),
  mv_ 12 102] [0, 4, 5, 9, 11, 12])
def Dy : Af := .seq (.seq (.ops [mv_ 98 12,
  mv_ 99 9,
  po_ 100 (.bin 3 .lss (.t 98) (.t 99))] [0, 4, 5, 9, 11, 12, 100])
 (.cond (.t 100)
 (.skip)
 (.exit 2)))
 Ik
def Ig : Af := .block 2 (.loop [0, 4, 5, 9, 11, 12] Dy)
def IM : Af := .seq (.ops [po_ 12 (.mov (ci_ 0))] [0, 4, 5, 9, 11, 12])
 Ig
def IR : Af := .seq (.seq (.ops [mv_ 74 0,
  po_ 75 (.nilc (.t 74)),
  po_ 76 (.fieldA 5 5 (.t 75)),
  po_ 77 (.load false 1 (.t 76)),
  po_ 78 (.bin 3 .neq (.t 77) (ci_ 0)),
  mv_ 79 78,
  ⟨some 80, .p (.mov (.t 11)), some ⟨79, false⟩⟩,
  ⟨some 81, .p (.mov (.t 0)), some ⟨79, false⟩⟩,
  ⟨some 82, .p (.nilc (.t 81)), some ⟨79, false⟩⟩,
  ⟨some 83, .p (.fieldA 2 2 (.t 82)), some ⟨79, false⟩⟩,
  ⟨some 84, .p (.load false 1 (.t 83)), some ⟨79, false⟩⟩,
  ⟨some 85, .p (.lenV (.t 84)), some ⟨79, false⟩⟩,
  ⟨some 86, .p (.bin 3 .gtr (.t 80) (.t 85)), some ⟨79, false⟩⟩,
  po_ 87 (.pick (.t 79) (.c (.bool true)) (.t 86)),
  mv_ 88 87,
  ⟨some 89, .p (.mov (.t 11)), some ⟨88, false⟩⟩,
  ⟨some 90, .p (.mov (.t 0)), some ⟨88, false⟩⟩,
  ⟨some 91, .p (.nilc (.t 90)), some ⟨88, false⟩⟩,
  ⟨some 92, .p (.fieldA 4 4 (.t 91)), some ⟨88, false⟩⟩,
  ⟨some 93, .p (.load false 1 (.t 92)), some ⟨88, false⟩⟩,
  ⟨some 94, .p (.bin 3 .gtr (.t 89) (.t 93)), some ⟨88, false⟩⟩,
  po_ 95 (.pick (.t 88) (.c (.bool true)) (.t 94))] [0, 4, 5, 9, 11, 95])
 (.cond (.t 95)
 (.seq (.ops [mv_ 96 0,
   so_ 97 (.call 35 [.t 96, .c (.int .i64 ((10 : Nat) : Int))])] [])
  (.ret))
 (.skip)))
 IM
def IG : Af := .seq (.ops [mv_ 69 7,
  mv_ 70 0,
  mv_ 71 8,
  so_ 72 (.call 34 [.t 70, .t 71]),
  po_ 73 (.bin 3 .add (.t 69) (.t 72)),
  mv_ 11 73] [0, 4, 5, 9, 11])
 IR
def I9 : Af := .seq (.ops [mv_ 65 10,
  so_ 66 (.call 56 [.t 65, .c (.bool true)]),
  mv_ 64 66,
  po_ 67 (.ext 0 (.t 64)),
  po_ 68 (.ext 1 (.t 64)),
  mv_ 7 67,
  mv_ 8 68] [0, 4, 5, 7, 8, 9])
 IG
def Gf : Af := .seq (.seq (.ops [mv_ 53 0,
  po_ 54 (.nilc (.t 53)),
  po_ 55 (.fieldA 5 5 (.t 54)),
  po_ 56 (.load false 1 (.t 55)),
  po_ 57 (.bin 3 .neq (.t 56) (ci_ 0)),
  mv_ 58 57,
  ⟨some 59, .p (.mov (.t 10)), some ⟨58, false⟩⟩,
  ⟨some 60, .p (.bin 3 .gtr (.t 59) (ci_ 29)), some ⟨58, false⟩⟩,
  po_ 61 (.pick (.t 58) (.c (.bool true)) (.t 60))] [0, 4, 5, 9, 10, 61])
 (.cond (.t 61)
 (.seq (.ops [mv_ 62 0,
   so_ 63 (.call 35 [.t 62, .c (.int .i64 ((10 : Nat) : Int))])] [])
  (.ret))
 (.skip)))
 I9
def Gn : Af := .seq (.ops [mv_ 50 0,
  po_ 51 (.load true 2 (.t 5)),
  so_ 52 (.call 55 [.t 50, .t 51]),
  mv_ 10 52] [0, 4, 5, 9, 10])
 Gf
def Hm : Af := .seq (.ops [mv_ 45 7,
  mv_ 46 0,
  mv_ 47 8,
  so_ 48 (.call 34 [.t 46, .t 47]),
  po_ 49 (.bin 3 .add (.t 45) (.t 48)),
  mv_ 9 49] [0, 4, 5, 9])
 Gn
def GG : Af := .seq (.ops [mv_ 41 6,
  so_ 42 (.call 56 [.t 41, .c (.bool false)]),
  mv_ 40 42,
  po_ 43 (.ext 0 (.t 40)),
  po_ 44 (.ext 1 (.t 40)),
  mv_ 7 43,
  mv_ 8 44] [0, 4, 5, 7, 8])
 Hm
def G9 : Af := .seq (.seq (.ops [mv_ 36 6,
  po_ 37 (.bin 3 .gtr (.t 36) (ci_ 285))] [0, 4, 5, 6, 37])
 (.cond (.t 37)
 (.seq (.ops [mv_ 38 0,
   so_ 39 (.call 35 [.t 38, .c (.int .i64 ((10 : Nat) : Int))])] [])
  (.ret))
 (.skip)))
 GG
def Gs : Af := .seq (.seq (.ops [mv_ 30 6,
  po_ 31 (.bin 3 .lss (.t 30) (ci_ 256))] [0, 4, 5, 6, 31])
 (.cond (.t 31)
 (.seq (.ops [mv_ 32 0,
   mv_ 33 6,
   po_ 34 (.conv .u8 (.t 33)),
   so_ 35 (.call 53 [.t 32, .t 34])] [0, 4, 5])
  (.exit 1))
 (.skip)))
 G9
def G8 : Af := .seq (.seq (.ops [mv_ 21 0,
  po_ 22 (.nilc (.t 21)),
  po_ 23 (.fieldA 5 5 (.t 22)),
  po_ 24 (.load false 1 (.t 23)),
  po_ 25 (.bin 3 .neq (.t 24) (ci_ 0)),
  mv_ 26 25,
  ⟨some 27, .p (.mov (.t 6)), some ⟨26, false⟩⟩,
  ⟨some 28, .p (.bin 3 .eql (.t 27) (ci_ 256)), some ⟨26, false⟩⟩,
  po_ 29 (.pick (.t 26) (.c (.bool true)) (.t 28))] [0, 4, 5, 6, 29])
 (.cond (.t 29)
 (.ret)
 (.skip)))
 Gs
def GI : Af := .block 1 (.seq (.ops [mv_ 18 0,
  po_ 19 (.load true 2 (.t 4)),
  so_ 20 (.call 55 [.t 18, .t 19]),
  mv_ 6 20] [0, 4, 5, 6])
 G8)
def Gu : Af := .seq (.seq (.ops [mv_ 13 0,
  po_ 14 (.nilc (.t 13)),
  po_ 15 (.fieldA 5 5 (.t 14)),
  po_ 16 (.load false 1 (.t 15)),
  po_ 17 (.bin 3 .eql (.t 16) (ci_ 0))] [0, 4, 5, 17])
 (.cond (.t 17)
 (.skip)
 (.exit 0)))
 GI
def Hg : Af := .block 0 (.loop [0, 4, 5] Gu)
def Nq : Af := .seq (.ops [so_ 4 (.box (.t 1)),
  so_ 5 (.box (.t 2))] [0, 4, 5])
 Hg
def Nh : List VR := []
theorem AaS : Tryd.f38.body.bind (trC Tryd.prog Tryd.f38.ntmps) = some (er Nq) := by kernel_rfl
theorem Aa6 : trR Tryd.prog Tryd.f38.results.toList = some Nh := by kernel_rfl
def Sv := Aa Jc.eq_1
def Su := Aa IX.eq_1
def Tj := Aa Ik.eq_1
def SS := Aa Dy.eq_1
def Sr := Aa Ig.eq_1
def S9 := Aa IM.eq_1
def Tq := Aa IR.eq_1
def Tc := Aa IG.eq_1
def TB := Aa I9.eq_1
def QX := Aa Gf.eq_1
def Sj := Aa Gn.eq_1
def QV := Aa Hm.eq_1
def Qp := Aa GG.eq_1
def P9 := Aa G9.eq_1
def Q8 := Aa Gs.eq_1
def QS := Aa G8.eq_1
def Qd := Aa GI.eq_1
def QP := Aa Gu.eq_1
def RN := Aa Hg.eq_1
def XG := Aa Nq.eq_1
theorem XW {K : TV → Prop} {e : Env} {H : List Ob} : res Nh e H K = res [] e H K := Ad rfl
def Aj := (And.intro (And.intro (And.intro (And.intro (And.intro @Sv @Su) (And.intro @Tj @SS)) (And.intro (And.intro @Sr @S9) (And.intro @Tq @Tc))) (And.intro (And.intro (And.intro @TB @QX) (And.intro @Sj @QV)) (And.intro (And.intro @Qp @P9) (And.intro @Q8 @QS)))) (And.intro (And.intro (And.intro @Qd @QP) (And.intro @RN @XG)) @XW))
def KR := EK 123 Tryd.func38 AaS Aa6 rfl

def Fa : Af := .seq (.seq (.ops [mv_ 48 10,
  mv_ 49 7,
  po_ 50 (.bin 3 .lss (.t 48) (.t 49))] [0, 2, 3, 5, 6, 7, 8, 9, 10, 50])
 (.cond (.t 50)
 (.skip)
 (.exit 0)))
 (.seq (.block 1 (.sdraw 5 [mv_ 53 9,
  mv_ 54 8,
  mv_ 55 10,
  po_ 56 (.idxA 1 (.t 54) (.t 55)),
  po_ 57 (.load false 1 (.t 56)),
  mv_ 58 0,
  so_ 59 (.call 34 [.t 58, .c (.int .i64 ((3 : Nat) : Int))]),
  po_ 60 (.idxA 1 (.t 53) (.t 57)),
  ⟨none, .s (.store 1 (.t 60) (.t 59)), none⟩] [0, 2, 3, 5, 6, 7, 8, 9, 10]))
 (.ops [mv_ 51 10,
  po_ 52 (.bin 3 .add (.t 51) (ci_ 1)),
  mv_ 10 52] [0, 2, 3, 5, 6, 7, 8, 9, 10]))
def Nk : Af := .block 0 (.loop [0, 2, 3, 5, 6, 7, 8, 9, 10] Fa)
def MQ : Af := .seq (.seq (.ops [mv_ 98 13,
  po_ 99 (.lenV (.t 98)),
  po_ 100 (.bin 3 .eql (.t 99) (ci_ 0))] [0, 2, 3, 5, 6, 11, 13, 100])
 (.cond (.t 100)
 (.seq (.ops [po_ 101 (.build [.val (.slice none 0 0), .val (.slice none 0 0)] [1, 1] []),
   po_ 102 (.build [.val (.slice none 0 0), .val (.slice none 0 0)] [1, 1] []),
   ⟨none, .s (.store 2 (.t 2) (.t 101)), none⟩,
   ⟨none, .s (.store 2 (.t 3) (.t 102)), none⟩,
   po_ 4 (.mov (.c (.bool false)))] [2, 3, 4])
  (.ret))
 (.skip)))
 (.seq (.ops [mv_ 103 13,
  mv_ 104 13,
  po_ 105 (.lenV (.t 104)),
  po_ 106 (.bin 3 .sub (.t 105) (ci_ 1)),
  po_ 107 (.idxA 1 (.t 103) (.t 106)),
  po_ 108 (.load false 1 (.t 107)),
  mv_ 15 108] [0, 2, 3, 5, 6, 11, 13, 15])
 (.ops [mv_ 109 0,
  so_ 110 (.call 34 [.t 109, .c (.int .i64 ((2 : Nat) : Int))]),
  po_ 111 (.bin 3 .add (ci_ 3) (.t 110)),
  mv_ 16 111] [0, 2, 3, 5, 6, 11, 13, 15, 16]))
def NC : Af := .seq (.ops [mv_ 119 14,
  po_ 120 (.bin 3 .eql (.t 119) (ci_ 18)),
  mv_ 118 120] [0, 2, 3, 5, 6, 11, 13, 15, 16, 118])
 (.cond (.t 118)
 (.seq (.ops [po_ 15 (.mov (ci_ 0))] [0, 2, 3, 5, 6, 11, 13, 15])
  (.ops [mv_ 121 0,
   so_ 122 (.call 34 [.t 121, .c (.int .i64 ((7 : Nat) : Int))]),
   po_ 123 (.bin 3 .add (ci_ 11) (.t 122)),
   mv_ 16 123] [0, 2, 3, 5, 6, 11, 13, 15, 16]))
 (.skip))
def NV : Af := .cond (.t 112)
 (.seq (.ops [po_ 15 (.mov (ci_ 0))] [0, 2, 3, 5, 6, 11, 13, 15])
  (.ops [mv_ 115 0,
   so_ 116 (.call 34 [.t 115, .c (.int .i64 ((3 : Nat) : Int))]),
   po_ 117 (.bin 3 .add (ci_ 3) (.t 116)),
   mv_ 16 117] [0, 2, 3, 5, 6, 11, 13, 15, 16]))
 NC
def Me : Af := .seq (.ops [mv_ 113 14,
  po_ 114 (.bin 3 .eql (.t 113) (ci_ 17)),
  mv_ 112 114] [0, 2, 3, 5, 6, 11, 13, 14, 15, 16, 112])
 NV
def NJ : Af := .cond (.t 95)
 MQ
 Me
def NY : Af := .seq (.ops [mv_ 96 14,
  po_ 97 (.bin 3 .eql (.t 96) (ci_ 16)),
  mv_ 95 97] [0, 2, 3, 5, 6, 11, 13, 14, 15, 16, 95])
 NJ
def NS : Af := .cond (.t 87)
 (.seq (.ops [po_ 93 (.build [.val (.slice none 0 0), .val (.slice none 0 0)] [1, 1] []),
   po_ 94 (.build [.val (.slice none 0 0), .val (.slice none 0 0)] [1, 1] []),
   ⟨none, .s (.store 2 (.t 2) (.t 93)), none⟩,
   ⟨none, .s (.store 2 (.t 3) (.t 94)), none⟩,
   po_ 4 (.mov (.c (.bool false)))] [2, 3, 4])
  (.ret))
 NY
def Ei : Af := .seq (.seq (.ops [mv_ 141 17,
  mv_ 142 16,
  po_ 143 (.bin 3 .lss (.t 141) (.t 142))] [0, 2, 3, 5, 6, 11, 13, 15, 16, 17, 143])
 (.cond (.t 143)
 (.skip)
 (.exit 5)))
 (.seq (.block 6 (.ops [mv_ 146 13,
  mv_ 147 15,
  ⟨some 148, .s (.bslice 1 1 (.val (.int .i64 ((0 : Nat) : Int))) [⟨0, .t 147⟩]), none⟩,
  so_ 149 (.app 1 8 3 (.t 146) (.t 148)),
  mv_ 13 149] [0, 2, 3, 5, 6, 11, 13, 15, 16, 17]))
 (.ops [mv_ 144 17,
  po_ 145 (.bin 3 .add (.t 144) (ci_ 1)),
  mv_ 17 145] [0, 2, 3, 5, 6, 11, 13, 15, 16, 17]))
def Em : Af := .seq (.seq (.ops [mv_ 124 0,
  po_ 125 (.nilc (.t 124)),
  po_ 126 (.fieldA 5 5 (.t 125)),
  po_ 127 (.load false 1 (.t 126)),
  po_ 128 (.bin 3 .neq (.t 127) (ci_ 0)),
  mv_ 129 128,
  ⟨some 130, .p (.mov (.t 13)), some ⟨129, false⟩⟩,
  ⟨some 131, .p (.lenV (.t 130)), some ⟨129, false⟩⟩,
  ⟨some 132, .p (.mov (.t 16)), some ⟨129, false⟩⟩,
  ⟨some 133, .p (.bin 3 .add (.t 131) (.t 132)), some ⟨129, false⟩⟩,
  ⟨some 134, .p (.mov (.t 5)), some ⟨129, false⟩⟩,
  ⟨some 135, .p (.mov (.t 6)), some ⟨129, false⟩⟩,
  ⟨some 136, .p (.bin 3 .add (.t 134) (.t 135)), some ⟨129, false⟩⟩,
  ⟨some 137, .p (.bin 3 .gtr (.t 133) (.t 136)), some ⟨129, false⟩⟩,
  po_ 138 (.pick (.t 129) (.c (.bool true)) (.t 137))] [0, 2, 3, 5, 6, 11, 13, 15, 16, 138])
 (.cond (.t 138)
 (.seq (.ops [po_ 139 (.build [.val (.slice none 0 0), .val (.slice none 0 0)] [1, 1] []),
   po_ 140 (.build [.val (.slice none 0 0), .val (.slice none 0 0)] [1, 1] []),
   ⟨none, .s (.store 2 (.t 2) (.t 139)), none⟩,
   ⟨none, .s (.store 2 (.t 3) (.t 140)), none⟩,
   po_ 4 (.mov (.c (.bool false)))] [2, 3, 4])
  (.ret))
 (.skip)))
 (.seq (.ops [po_ 17 (.mov (ci_ 0))] [0, 2, 3, 5, 6, 11, 13, 15, 16, 17])
 (.block 5 (.own 13 1 (.loop [0, 2, 3, 5, 6, 11, 13, 15, 16, 17] Ei))))
def KX : Af := .seq (.block 4 (.seq (.ops [mv_ 88 0,
  po_ 89 (.nilc (.t 88)),
  po_ 90 (.fieldA 5 5 (.t 89)),
  po_ 91 (.load false 1 (.t 90)),
  po_ 92 (.bin 3 .neq (.t 91) (ci_ 0)),
  mv_ 87 92] [0, 2, 3, 5, 6, 11, 13, 14, 15, 16, 87])
 NS))
 Em
def Lp : Af := .seq (.ops [po_ 16 (.mov (ci_ 1))] [0, 2, 3, 5, 6, 11, 13, 14, 15, 16])
 KX
def J8 : Af := .seq (.ops [mv_ 86 14,
  mv_ 15 86] [0, 2, 3, 5, 6, 11, 13, 14, 15])
 Lp
def J5 : Af := .block 3 (.seq (.ops [mv_ 83 0,
  po_ 84 (.load true 2 (.t 11)),
  so_ 85 (.call 55 [.t 83, .t 84]),
  mv_ 14 85] [0, 2, 3, 5, 6, 11, 13, 14])
 J8)
def Ef : Af := .seq (.seq (.ops [mv_ 77 13,
  po_ 78 (.lenV (.t 77)),
  mv_ 79 5,
  mv_ 80 6,
  po_ 81 (.bin 3 .add (.t 79) (.t 80)),
  po_ 82 (.bin 3 .lss (.t 78) (.t 81))] [0, 2, 3, 5, 6, 11, 13, 82])
 (.cond (.t 82)
 (.skip)
 (.exit 2)))
 J5
def J7 : Af := .seq (.sdraw 12 [po_ 164 (.load true 2 (.t 18)),
  po_ 165 (.load true 2 (.t 20)),
  mv_ 166 19,
  mv_ 167 166,
  ⟨some 168, .p (.mov (.t 21)), some ⟨167, true⟩⟩,
  po_ 169 (.pick (.t 167) (.t 168) (.c (.bool false))),
  mv_ 170 169,
  ⟨some 171, .p (.mov (.t 13)), some ⟨170, true⟩⟩,
  ⟨some 172, .p (.idxA 1 (.t 171) (ci_ 256)), some ⟨170, true⟩⟩,
  ⟨some 173, .p (.load false 1 (.t 172)), some ⟨170, true⟩⟩,
  ⟨some 174, .p (.bin 3 .gtr (.t 173) (ci_ 0)), some ⟨170, true⟩⟩,
  po_ 175 (.pick (.t 170) (.t 174) (.c (.bool false))),
  ⟨none, .s (.store 2 (.t 2) (.t 164)), none⟩,
  ⟨none, .s (.store 2 (.t 3) (.t 165)), none⟩,
  mv_ 4 175] [2, 3, 4])
 (.ret)
def Kw : Af := .seq (.ops [mv_ 158 13,
  mv_ 159 5,
  po_ 160 (.slV 1 (.t 158) (some (.t 159)) none),
  so_ 161 (.call 54 [.t 160, .c (.bool true), .c (.bool true)]),
  mv_ 157 161,
  po_ 162 (.ext 0 (.t 157)),
  po_ 163 (.ext 1 (.t 157)),
  so_ 20 (.alloc (.agg [.val (.slice none 0 0), .val (.slice none 0 0)])),
  ⟨none, .s (.store 2 (.t 20) (.t 162)), none⟩,
  mv_ 21 163] [2, 3, 13, 18, 19, 20, 21])
 J7
def KE : Af := .frz 13 (.seq (.ops [mv_ 151 13,
  mv_ 152 5,
  po_ 153 (.slV 1 (.t 151) none (some (.t 152))),
  so_ 154 (.call 54 [.t 153, .c (.bool true), .c (.bool false)]),
  mv_ 150 154,
  po_ 155 (.ext 0 (.t 150)),
  po_ 156 (.ext 1 (.t 150)),
  so_ 18 (.alloc (.agg [.val (.slice none 0 0), .val (.slice none 0 0)])),
  ⟨none, .s (.store 2 (.t 18) (.t 155)), none⟩,
  mv_ 19 156] [2, 3, 5, 13, 18, 19])
 Kw)
def KA : Af := .seq (.block 2 (.own 13 1 (.loop [0, 2, 3, 5, 6, 11, 13] Ef)))
 KE
def KY : Af := .seq (.ops [po_ 13 (.mov (.c (.slice none 0 0)))] [0, 2, 3, 5, 6, 11, 13])
 KA
def KT : Af := .seq (.seq (.ops [mv_ 66 0,
  po_ 67 (.nilc (.t 66)),
  po_ 68 (.fieldA 5 5 (.t 67)),
  po_ 69 (.load false 1 (.t 68)),
  po_ 70 (.bin 3 .neq (.t 69) (ci_ 0)),
  mv_ 71 70,
  ⟨some 72, .p (.mov (.t 12)), some ⟨71, false⟩⟩,
  ⟨some 73, .p (.un .not (.t 72)), some ⟨71, false⟩⟩,
  po_ 74 (.pick (.t 71) (.c (.bool true)) (.t 73))] [0, 2, 3, 5, 6, 11, 74])
 (.cond (.t 74)
 (.seq (.ops [po_ 75 (.build [.val (.slice none 0 0), .val (.slice none 0 0)] [1, 1] []),
   po_ 76 (.build [.val (.slice none 0 0), .val (.slice none 0 0)] [1, 1] []),
   ⟨none, .s (.store 2 (.t 2) (.t 75)), none⟩,
   ⟨none, .s (.store 2 (.t 3) (.t 76)), none⟩,
   po_ 4 (.mov (.c (.bool false)))] [2, 3, 4])
  (.ret))
 (.skip)))
 KY
def J9 : Af := .frz 9 (.seq (.ops [mv_ 62 9,
  so_ 63 (.call 54 [.t 62, .c (.bool false), .c (.bool false)]),
  mv_ 61 63,
  po_ 64 (.ext 0 (.t 61)),
  po_ 65 (.ext 1 (.t 61)),
  so_ 11 (.alloc (.agg [.val (.slice none 0 0), .val (.slice none 0 0)])),
  ⟨none, .s (.store 2 (.t 11) (.t 64)), none⟩,
  mv_ 12 65] [0, 2, 3, 5, 6, 11, 12])
 KT)
def Ko : Af := .seq (.seq (.ops [po_ 10 (.mov (ci_ 0))] [0, 2, 3, 5, 6, 7, 8, 9, 10])
 Nk)
 J9
def KZ : Af := .seq (.ops [so_ 47 (.mks 1 8 (.val (.int .i64 ((0 : Nat) : Int))) (ci_ 19) (ci_ 19)),
  mv_ 9 47] [0, 2, 3, 5, 6, 7, 8, 9])
 Ko
def La : Af := .seq (.ops [⟨some 46, .s (.bslice 1 19 (.val (.int .i64 ((0 : Nat) : Int))) [⟨0, .c (.int .i64 ((16 : Nat) : Int))⟩, ⟨1, .c (.int .i64 ((17 : Nat) : Int))⟩, ⟨2, .c (.int .i64 ((18 : Nat) : Int))⟩, ⟨3, .c (.int .i64 ((0 : Nat) : Int))⟩, ⟨4, .c (.int .i64 ((8 : Nat) : Int))⟩, ⟨5, .c (.int .i64 ((7 : Nat) : Int))⟩, ⟨6, .c (.int .i64 ((9 : Nat) : Int))⟩, ⟨7, .c (.int .i64 ((6 : Nat) : Int))⟩, ⟨8, .c (.int .i64 ((10 : Nat) : Int))⟩, ⟨9, .c (.int .i64 ((5 : Nat) : Int))⟩, ⟨10, .c (.int .i64 ((11 : Nat) : Int))⟩, ⟨11, .c (.int .i64 ((4 : Nat) : Int))⟩, ⟨12, .c (.int .i64 ((12 : Nat) : Int))⟩, ⟨13, .c (.int .i64 ((3 : Nat) : Int))⟩, ⟨14, .c (.int .i64 ((13 : Nat) : Int))⟩, ⟨15, .c (.int .i64 ((2 : Nat) : Int))⟩, ⟨16, .c (.int .i64 ((14 : Nat) : Int))⟩, ⟨17, .c (.int .i64 ((1 : Nat) : Int))⟩, ⟨18, .c (.int .i64 ((15 : Nat) : Int))⟩]), none⟩,
  mv_ 8 46] [0, 2, 3, 5, 6, 7, 8])
 KZ
def KO : Af := .seq (.seq (.ops [mv_ 31 0,
  po_ 32 (.nilc (.t 31)),
  po_ 33 (.fieldA 5 5 (.t 32)),
  po_ 34 (.load false 1 (.t 33)),
  po_ 35 (.bin 3 .neq (.t 34) (ci_ 0)),
  mv_ 36 35,
  ⟨some 37, .p (.mov (.t 5)), some ⟨36, false⟩⟩,
  ⟨some 38, .p (.bin 3 .gtr (.t 37) (ci_ 286)), some ⟨36, false⟩⟩,
  po_ 39 (.pick (.t 36) (.c (.bool true)) (.t 38)),
  mv_ 40 39,
  ⟨some 41, .p (.mov (.t 6)), some ⟨40, false⟩⟩,
  ⟨some 42, .p (.bin 3 .gtr (.t 41) (ci_ 30)), some ⟨40, false⟩⟩,
  po_ 43 (.pick (.t 40) (.c (.bool true)) (.t 42))] [0, 2, 3, 5, 6, 7, 43])
 (.cond (.t 43)
 (.seq (.ops [po_ 44 (.build [.val (.slice none 0 0), .val (.slice none 0 0)] [1, 1] []),
   po_ 45 (.build [.val (.slice none 0 0), .val (.slice none 0 0)] [1, 1] []),
   ⟨none, .s (.store 2 (.t 2) (.t 44)), none⟩,
   ⟨none, .s (.store 2 (.t 3) (.t 45)), none⟩,
   po_ 4 (.mov (.c (.bool false)))] [2, 3, 4])
  (.ret))
 (.skip)))
 La
def Lc : Af := .seq (.ops [mv_ 28 0,
  so_ 29 (.call 34 [.t 28, .c (.int .i64 ((4 : Nat) : Int))]),
  po_ 30 (.bin 3 .add (.t 29) (ci_ 4)),
  mv_ 7 30] [0, 2, 3, 5, 6, 7])
 KO
def KF : Af := .seq (.ops [mv_ 25 0,
  so_ 26 (.call 34 [.t 25, .c (.int .i64 ((5 : Nat) : Int))]),
  po_ 27 (.bin 3 .add (.t 26) (ci_ 1)),
  mv_ 6 27] [0, 2, 3, 5, 6])
 Lc
def J6 : Af := .seq (.ops [mv_ 22 0,
  so_ 23 (.call 34 [.t 22, .c (.int .i64 ((5 : Nat) : Int))]),
  po_ 24 (.bin 3 .add (.t 23) (ci_ 257)),
  mv_ 5 24] [0, 2, 3, 5])
 KF
def UI : Af := .seq (.ops [so_ 2 (.alloc (.agg [.val (.slice none 0 0), .val (.slice none 0 0)])),
  so_ 3 (.alloc (.agg [.val (.slice none 0 0), .val (.slice none 0 0)])),
  po_ 4 (.mov (.c (.bool false)))] [0, 2, 3])
 J6
def TG : List VR := [.cell 2 true 2, .cell 3 true 2, .tmp 4]
theorem Afb : Tryd.f39.body.bind (trC Tryd.prog Tryd.f39.ntmps) = some (er UI) := by kernel_rfl
theorem AeF : trR Tryd.prog Tryd.f39.results.toList = some TG := by kernel_rfl
def Yo := Aa Fa.eq_1
def XV := Aa Nk.eq_1
def Yk := Aa MQ.eq_1
def JO := Aa NC.eq_1
def Jm := Aa NV.eq_1
def JU := Aa Me.eq_1
def Jl := Aa NJ.eq_1
def JE := Aa NY.eq_1
def JZ := Aa NS.eq_1
def Wv := Aa Ei.eq_1
def VT := Aa Em.eq_1
def Ir := Aa KX.eq_1
def Iq := Aa Lp.eq_1
def IJ := Aa J8.eq_1
def W9 := Aa J5.eq_1
def VX := Aa Ef.eq_1
def Wq := Aa J7.eq_1
def Xk := Aa Kw.eq_1
def Ic := Aa KE.eq_1
def WG := Aa KA.eq_1
def WP := Aa KY.eq_1
def V9 := Aa KT.eq_1
def Il := Aa J9.eq_1
def Xj := Aa Ko.eq_1
def Wj := Aa KZ.eq_1
def Ws := Aa La.eq_1
def VP := Aa KO.eq_1
def VW := Aa Lc.eq_1
def VS := Aa KF.eq_1
def Wu := Aa J6.eq_1
def Acn := Aa UI.eq_1
theorem AcU {K : TV → Prop} {e : Env} {H : List Ob} : res TG e H K = res [.cell 2 true 2, .cell 3 true 2, .tmp 4] e H K := Ad rfl
def Ak := (And.intro (And.intro (And.intro (And.intro (And.intro @Yo @XV) (And.intro @Yk @JO)) (And.intro (And.intro @Jm @JU) (And.intro @Jl @JE))) (And.intro (And.intro (And.intro @JZ @Wv) (And.intro @VT @Ir)) (And.intro (And.intro @Iq @IJ) (And.intro @W9 @VX)))) (And.intro (And.intro (And.intro (And.intro @Wq @Xk) (And.intro @Ic @WG)) (And.intro (And.intro @WP @V9) (And.intro @Il @Xj))) (And.intro (And.intro (And.intro @Wj @Ws) (And.intro @VP @VW)) (And.intro (And.intro @VS @Wu) (And.intro @Acn @AcU)))))
def Adz := EK 176 Tryd.func39 Afb AeF rfl

def OJ : Af := .seq (.seq (.draw 5 [mv_ 9 0,
  po_ 10 (.nilc (.t 9)),
  po_ 11 (.fieldA 2 2 (.t 10)),
  po_ 12 (.load false 1 (.t 11)),
  po_ 13 (.lenV (.t 12)),
  mv_ 14 0,
  po_ 15 (.nilc (.t 14)),
  po_ 16 (.fieldA 3 3 (.t 15)),
  po_ 17 (.load false 1 (.t 16)),
  po_ 18 (.bin 3 .geq (.t 13) (.t 17))] [0, 1, 18])
 (.cond (.t 18)
 (.seq (.ops [mv_ 19 0,
   po_ 20 (.nilc (.t 19)),
   po_ 21 (.fieldA 5 5 (.t 20)),
   ⟨none, .s (.store 1 (.t 21) (ci_ 11)), none⟩] [])
  (.ret))
 (.skip)))
 (.ops [mv_ 22 0,
  mv_ 23 0,
  po_ 24 (.nilc (.t 23)),
  po_ 25 (.fieldA 2 2 (.t 24)),
  po_ 26 (.load false 1 (.t 25)),
  mv_ 27 1,
  ⟨some 28, .s (.bslice 1 1 (.val (.int .u8 ((0 : Nat) : Int))) [⟨0, .t 27⟩]), none⟩,
  so_ 29 (.app 1 1 5 (.t 26) (.t 28)),
  po_ 30 (.nilc (.t 22)),
  po_ 31 (.fieldA 2 2 (.t 30)),
  ⟨none, .s (.store 1 (.t 31) (.t 29)), none⟩] [])
def Xg : Af := .seq (.seq (.ops [mv_ 4 0,
  po_ 5 (.nilc (.t 4)),
  po_ 6 (.fieldA 5 5 (.t 5)),
  po_ 7 (.load false 1 (.t 6)),
  po_ 8 (.bin 3 .neq (.t 7) (ci_ 0))] [0, 1, 8])
 (.cond (.t 8)
 (.ret)
 (.skip)))
 OJ
def WW : List VR := []
theorem Agn : Tryd.f53.body.bind (trC Tryd.prog Tryd.f53.ntmps) = some (er Xg) := by kernel_rfl
theorem Agp : trR Tryd.prog Tryd.f53.results.toList = some WW := by kernel_rfl
def YQ := Aa OJ.eq_1
def AdO := Aa Xg.eq_1
theorem AdV {K : TV → Prop} {e : Env} {H : List Ob} : res WW e H K = res [] e H K := Ad rfl
def BX := (And.intro (And.intro @YQ @AdO) @AdV)
def TJ := EK 32 Tryd.func53 Agn Agp rfl

def Adt : Af := .seq (.seq (.ops [mv_ 18 12,
  mv_ 19 0,
  po_ 20 (.lenV (.t 19)),
  po_ 21 (.bin 3 .lss (.t 18) (.t 20))] [0, 1, 2, 6, 8, 9, 10, 11, 12, 21])
 (.cond (.t 21)
 (.skip)
 (.exit 0)))
 (.seq (.block 1 (.ops [po_ 24 (.fieldA 1 1 (.t 8)),
  po_ 25 (.load false 1 (.t 24)),
  ⟨some 26, .s (.bslice 1 1 (.val (.int .i64 ((0 : Nat) : Int))) [⟨0, .c (.int .i64 ((0 : Nat) : Int))⟩]), none⟩,
  so_ 27 (.app 1 8 3 (.t 25) (.t 26)),
  po_ 28 (.fieldA 1 1 (.t 8)),
  ⟨none, .s (.store 1 (.t 28) (.t 27)), none⟩] [0, 1, 2, 6, 8, 9, 10, 11, 12]))
 (.ops [mv_ 22 12,
  po_ 23 (.bin 3 .add (.t 22) (ci_ 1)),
  mv_ 12 23] [0, 1, 2, 6, 8, 9, 10, 11, 12]))
def Adx : Af := .block 0 (.ownB 8 [(1, 1)] 1 (.loop [0, 1, 2, 6, 8, 9, 10, 11, 12] Adt))
def Ac5 : Af := .seq (.ops [mv_ 52 9,
  po_ 53 (.bin 3 .add (.t 52) (ci_ 1)),
  mv_ 9 53] [0, 1, 2, 6, 8, 9, 10, 13, 14, 15])
 (.seq (.ops [mv_ 54 10,
  po_ 55 (.bin 3 .add (.t 54) (ci_ 1)),
  mv_ 10 55] [0, 1, 2, 6, 8, 9, 10, 13, 14, 15])
 (.seq (.ops [mv_ 56 14,
  mv_ 11 56] [0, 1, 2, 6, 8, 9, 10, 11, 13, 14, 15])
 (.ops [mv_ 57 13,
  mv_ 58 14,
  po_ 59 (.bin 3 .sub (ci_ 15) (.t 58)),
  po_ 60 (.bin 3 .shl (ci_ 1) (.t 59)),
  po_ 61 (.bin 3 .add (.t 57) (.t 60)),
  mv_ 13 61] [0, 1, 2, 6, 8, 9, 10, 11, 13, 14, 15])))
def Ada : Af := .seq (.ops [po_ 47 (.fieldA 1 1 (.t 8)),
  po_ 48 (.load false 1 (.t 47)),
  mv_ 49 15,
  mv_ 50 9,
  po_ 51 (.idxA 1 (.t 48) (.t 49)),
  ⟨none, .s (.store 1 (.t 51) (.t 50)), none⟩] [0, 1, 2, 6, 8, 9, 10, 13, 14, 15])
 Ac5
def Ac4 : Af := .cond (.t 46)
 Ada
 (.skip)
def Adg : Af := .seq (.block 5 (.seq (.ops [mv_ 41 0,
  mv_ 42 15,
  po_ 43 (.idxA 1 (.t 41) (.t 42)),
  po_ 44 (.load false 1 (.t 43)),
  mv_ 45 14,
  po_ 46 (.bin 3 .eql (.t 44) (.t 45))] [0, 1, 2, 6, 8, 9, 10, 11, 13, 14, 15, 46])
 Ac4))
 (.ops [mv_ 39 15,
  po_ 40 (.bin 3 .add (.t 39) (ci_ 1)),
  mv_ 15 40] [0, 1, 2, 6, 8, 9, 10, 11, 13, 14, 15])
def Ady : Af := .seq (.seq (.ops [mv_ 35 15,
  mv_ 36 0,
  po_ 37 (.lenV (.t 36)),
  po_ 38 (.bin 3 .lss (.t 35) (.t 37))] [0, 1, 2, 6, 8, 9, 10, 11, 13, 14, 15, 38])
 (.cond (.t 38)
 (.skip)
 (.exit 4)))
 Adg
def Adv : Af := .block 4 (.loop [0, 1, 2, 6, 8, 9, 10, 11, 13, 14, 15] Ady)
def Adu : Af := .seq (.ops [po_ 15 (.mov (ci_ 0))] [0, 1, 2, 6, 8, 9, 10, 11, 13, 14, 15])
 Adv
def ZL : Af := .ops [mv_ 31 14,
  po_ 32 (.bin 3 .add (.t 31) (ci_ 1)),
  mv_ 14 32] [0, 1, 2, 6, 8, 9, 10, 11, 13, 14]
def AaJ : Af := .seq (.block 3 (.seq (.ops [mv_ 33 9,
  po_ 34 (.bin 3 .mul (.t 33) (ci_ 2)),
  mv_ 9 34] [0, 1, 2, 6, 8, 9, 10, 11, 13, 14])
 Adu))
 ZL
def ZG : Af := .seq (.seq (.ops [mv_ 29 14,
  po_ 30 (.bin 3 .leq (.t 29) (ci_ 15))] [0, 1, 2, 6, 8, 9, 10, 11, 13, 14, 30])
 (.cond (.t 30)
 (.skip)
 (.exit 2)))
 AaJ
def AbK : Af := .block 2 (.loop [0, 1, 2, 6, 8, 9, 10, 11, 13, 14] ZG)
def Aaa : Af := .seq (.ops [po_ 65 (.load true 2 (.t 8)),
  mv_ 66 1,
  mv_ 67 66,
  ⟨some 68, .p (.mov (.t 10)), some ⟨67, true⟩⟩,
  ⟨some 69, .p (.bin 3 .eql (.t 68) (ci_ 1)), some ⟨67, true⟩⟩,
  po_ 70 (.pick (.t 67) (.t 69) (.c (.bool false))),
  mv_ 71 70,
  ⟨some 72, .p (.mov (.t 11)), some ⟨71, true⟩⟩,
  ⟨some 73, .p (.bin 3 .eql (.t 72) (ci_ 1)), some ⟨71, true⟩⟩,
  po_ 74 (.pick (.t 71) (.t 73) (.c (.bool false))),
  mv_ 75 74,
  ⟨some 76, .p (.mov (.t 2)), some ⟨75, false⟩⟩,
  ⟨some 77, .p (.mov (.t 76)), some ⟨75, false⟩⟩,
  ⟨some 78, .p (.mov (.t 10)), some ⟨77, true⟩⟩,
  ⟨some 79, .p (.bin 3 .eql (.t 78) (ci_ 0)), some ⟨77, true⟩⟩,
  ⟨some 80, .p (.pick (.t 77) (.t 79) (.c (.bool false))), some ⟨75, false⟩⟩,
  po_ 81 (.pick (.t 75) (.c (.bool true)) (.t 80)),
  ⟨none, .s (.store 2 (.t 6) (.t 65)), none⟩,
  mv_ 7 81] [6, 7])
 (.ret)
def ZO : Af := .seq (.seq (.ops [mv_ 62 13,
  po_ 63 (.bin 3 .eql (.t 62) (ci_ 32768))] [1, 2, 6, 8, 10, 11, 63])
 (.cond (.t 63)
 (.seq (.ops [po_ 64 (.load true 2 (.t 8)),
   ⟨none, .s (.store 2 (.t 6) (.t 64)), none⟩,
   po_ 7 (.mov (.c (.bool true)))] [6, 7])
  (.ret))
 (.skip)))
 Aaa
def Aa0 : Af := .seq (.seq (.ops [po_ 14 (.mov (ci_ 1))] [0, 1, 2, 6, 8, 9, 10, 11, 13, 14])
 AbK)
 ZO
def AbH : Af := .seq (.ops [po_ 13 (.mov (ci_ 0))] [0, 1, 2, 6, 8, 9, 10, 11, 13])
 Aa0
def Aad : Af := .seq (.seq (.ops [po_ 12 (.mov (ci_ 0))] [0, 1, 2, 6, 8, 9, 10, 11, 12])
 Adx)
 AbH
def ZB : Af := .seq (.ops [po_ 11 (.mov (ci_ 0))] [0, 1, 2, 6, 8, 9, 10, 11])
 Aad
def Abb : Af := .seq (.ops [po_ 10 (.mov (ci_ 0))] [0, 1, 2, 6, 8, 9, 10])
 ZB
def ZF : Af := .seq (.ops [po_ 9 (.mov (ci_ 0))] [0, 1, 2, 6, 8, 9])
 Abb
def Abh : Af := .seq (.ops [mv_ 16 0,
  ⟨some 17, .p (.build [.val (.slice none 0 0), .val (.slice none 0 0)] [1, 1] [⟨0, .t 16⟩]), none⟩,
  so_ 8 (.alloc (.agg [.val (.slice none 0 0), .val (.slice none 0 0)])),
  ⟨none, .s (.store 2 (.t 8) (.t 17)), none⟩] [0, 1, 2, 6, 8])
 ZF
def Aix : Af := .seq (.ops [so_ 6 (.alloc (.agg [.val (.slice none 0 0), .val (.slice none 0 0)])),
  po_ 7 (.mov (.c (.bool false)))] [0, 1, 2, 6])
 Abh
def Aiq : List VR := [.cell 6 true 2, .tmp 7]
theorem Ant : Tryd.f54.body.bind (trC Tryd.prog Tryd.f54.ntmps) = some (er Aix) := by kernel_rfl
theorem Anu : trR Tryd.prog Tryd.f54.results.toList = some Aiq := by kernel_rfl
def Aha := Aa Adt.eq_1
def Ag7 := Aa Adx.eq_1
def AhB := Aa Ac5.eq_1
def Ahk := Aa Ada.eq_1
def Ag9 := Aa Ac4.eq_1
def Aht := Aa Adg.eq_1
def Ahx := Aa Ady.eq_1
def Ahs := Aa Adv.eq_1
def AhG := Aa Adu.eq_1
def Af9 := Aa ZL.eq_1
def AfX := Aa AaJ.eq_1
def AfB := Aa ZG.eq_1
def AgG := Aa AbK.eq_1
def Afz := Aa Aaa.eq_1
def AfQ := Aa ZO.eq_1
def Afx := Aa Aa0.eq_1
def AfG := Aa AbH.eq_1
def Agd := Aa Aad.eq_1
def AfR := Aa ZB.eq_1
def Agu := Aa Abb.eq_1
def AfN := Aa ZF.eq_1
def AfI := Aa Abh.eq_1
def AkA := Aa Aix.eq_1
theorem Aka {K : TV → Prop} {e : Env} {H : List Ob} : res Aiq e H K = res [.cell 6 true 2, .tmp 7] e H K := Ad rfl
def CE := (And.intro (And.intro (And.intro (And.intro (And.intro @Aha @Ag7) (And.intro @AhB @Ahk)) (And.intro (And.intro @Ag9 @Aht) (And.intro @Ahx @Ahs))) (And.intro (And.intro (And.intro @AhG @Af9) (And.intro @AfX @AfB)) (And.intro (And.intro @AgG @Afz) (And.intro @AfQ @Afx)))) (And.intro (And.intro (And.intro @AfG @Agd) (And.intro @AfR @Agu)) (And.intro (And.intro @AfN @AfI) (And.intro @AkA @Aka))))
def Alr := EK 82 Tryd.func54 Ant Anu rfl

def Jz : Af := .seq (.block 3 (.seq (.ops [po_ 29 (.fieldA 0 0 (.t 3)),
  po_ 30 (.load false 1 (.t 29)),
  mv_ 31 7,
  po_ 32 (.idxA 1 (.t 30) (.t 31)),
  po_ 33 (.load false 1 (.t 32)),
  mv_ 34 6,
  po_ 35 (.bin 3 .eql (.t 33) (.t 34)),
  mv_ 36 35,
  ⟨some 37, .p (.fieldA 1 1 (.t 3)), some ⟨36, true⟩⟩,
  ⟨some 38, .p (.load false 1 (.t 37)), some ⟨36, true⟩⟩,
  ⟨some 39, .p (.mov (.t 7)), some ⟨36, true⟩⟩,
  ⟨some 40, .p (.idxA 1 (.t 38) (.t 39)), some ⟨36, true⟩⟩,
  ⟨some 41, .p (.load false 1 (.t 40)), some ⟨36, true⟩⟩,
  ⟨some 42, .p (.mov (.t 5)), some ⟨36, true⟩⟩,
  ⟨some 43, .p (.bin 3 .eql (.t 41) (.t 42)), some ⟨36, true⟩⟩,
  po_ 44 (.pick (.t 36) (.t 43) (.c (.bool false)))] [0, 3, 5, 6, 7, 44])
 (.cond (.t 44)
 (.seq (.ops [mv_ 45 7,
   mv_ 4 45] [4])
  (.ret))
 (.skip))))
 (.ops [mv_ 27 7,
  po_ 28 (.bin 3 .add (.t 27) (ci_ 1)),
  mv_ 7 28] [0, 3, 5, 6, 7])
def DW : Af := .seq (.seq (.ops [mv_ 22 7,
  po_ 23 (.fieldA 0 0 (.t 3)),
  po_ 24 (.load false 1 (.t 23)),
  po_ 25 (.lenV (.t 24)),
  po_ 26 (.bin 3 .lss (.t 22) (.t 25))] [0, 3, 5, 6, 7, 26])
 (.cond (.t 26)
 (.skip)
 (.exit 2)))
 Jz
def Jr : Af := .block 2 (.loop [0, 3, 5, 6, 7] DW)
def Jj : Af := .seq (.ops [po_ 7 (.mov (ci_ 0))] [0, 3, 5, 6, 7])
 Jr
def JL : Af := .seq (.seq (.ops [mv_ 17 0,
  po_ 18 (.nilc (.t 17)),
  po_ 19 (.fieldA 5 5 (.t 18)),
  po_ 20 (.load false 1 (.t 19)),
  po_ 21 (.bin 3 .neq (.t 20) (ci_ 0))] [0, 3, 5, 6, 21])
 (.cond (.t 21)
 (.seq (.ops [po_ 4 (.mov (.c (.int .i64 (-1))))] [4])
  (.ret))
 (.skip)))
 Jj
def Jv : Af := .ops [mv_ 10 6,
  po_ 11 (.bin 3 .add (.t 10) (ci_ 1)),
  mv_ 6 11] [0, 3, 5, 6]
def Jw : Af := .seq (.block 1 (.seq (.ops [mv_ 12 5,
  po_ 13 (.bin 3 .mul (.t 12) (ci_ 2)),
  mv_ 14 0,
  so_ 15 (.call 34 [.t 14, .c (.int .i64 ((1 : Nat) : Int))]),
  po_ 16 (.bin 3 .add (.t 13) (.t 15)),
  mv_ 5 16] [0, 3, 5, 6])
 JL))
 Jv
def JF : Af := .seq (.seq (.ops [mv_ 8 6,
  po_ 9 (.bin 3 .leq (.t 8) (ci_ 15))] [0, 3, 5, 6, 9])
 (.cond (.t 9)
 (.skip)
 (.exit 0)))
 Jw
def Jt : Af := .block 0 (.loop [0, 3, 5, 6] JF)
def I8 : Af := .seq (.ops [mv_ 46 0,
  so_ 47 (.call 35 [.t 46, .c (.int .i64 ((10 : Nat) : Int))])] [])
 (.seq (.ops [po_ 4 (.mov (.c (.int .i64 (-1))))] [4])
 (.ret))
def Ie : Af := .seq (.seq (.ops [po_ 6 (.mov (ci_ 1))] [0, 3, 5, 6])
 Jt)
 I8
def IZ : Af := .seq (.ops [po_ 5 (.mov (ci_ 0))] [0, 3, 5])
 Ie
def O7 : Af := .seq (.ops [so_ 3 (.box (.t 1)),
  po_ 4 (.mov (ci_ 0))] [0, 3])
 IZ
def OX : List VR := [.tmp 4]
theorem AcL : Tryd.f55.body.bind (trC Tryd.prog Tryd.f55.ntmps) = some (er O7) := by kernel_rfl
theorem AcV : trR Tryd.prog Tryd.f55.results.toList = some OX := by kernel_rfl
def Vh := Aa Jz.eq_1
def VE := Aa DW.eq_1
def Vx := Aa Jr.eq_1
def Va := Aa Jj.eq_1
def U1 := Aa JL.eq_1
def Vt := Aa Jv.eq_1
def Vg := Aa Jw.eq_1
def U5 := Aa JF.eq_1
def VF := Aa Jt.eq_1
def SA := Aa I8.eq_1
def SI := Aa Ie.eq_1
def SB := Aa IZ.eq_1
def Zw := Aa O7.eq_1
theorem Zp {K : TV → Prop} {e : Env} {H : List Ob} : res OX e H K = res [.tmp 4] e H K := Ad rfl
def Az := (And.intro (And.intro (And.intro (And.intro @Vh @VE) (And.intro @Vx @Va)) (And.intro (And.intro @U1 @Vt) (And.intro @Vg @U5))) (And.intro (And.intro (And.intro @VF @SA) (And.intro @SI @SB)) (And.intro @Zw @Zp)))
def MB := EK 48 Tryd.func55 AcL AcV rfl

def Adj : Af := .seq (.ops [mv_ 32 11,
  po_ 33 (.bin 3 .add (.t 32) (ci_ 1)),
  mv_ 34 7,
  po_ 35 (.bin 3 .mul (ci_ 2) (.t 34)),
  po_ 36 (.bin 3 .geq (.t 33) (.t 35)),
  mv_ 37 36,
  ⟨some 38, .p (.mov (.t 11)), some ⟨37, true⟩⟩,
  ⟨some 39, .p (.bin 3 .add (.t 38) (ci_ 1)), some ⟨37, true⟩⟩,
  ⟨some 40, .p (.mov (.t 7)), some ⟨37, true⟩⟩,
  ⟨some 41, .p (.bin 3 .rem (.t 39) (.t 40)), some ⟨37, true⟩⟩,
  ⟨some 42, .p (.bin 3 .eql (.t 41) (ci_ 0)), some ⟨37, true⟩⟩,
  po_ 43 (.pick (.t 37) (.t 42) (.c (.bool false)))] [7, 8, 9, 10, 11, 43])
 (.cond (.t 43)
 (.ops [mv_ 44 10,
   po_ 45 (.bin 3 .add (.t 44) (ci_ 1)),
   mv_ 10 45] [7, 8, 9, 10, 11])
 (.skip))
def Adi : Af := .seq (.block 1 (.seq (.ops [mv_ 28 9,
  mv_ 29 10,
  po_ 30 (.bin 3 .shl (ci_ 1) (.t 29)),
  po_ 31 (.bin 3 .add (.t 28) (.t 30)),
  mv_ 9 31] [7, 8, 9, 10, 11])
 Adj))
 (.ops [mv_ 26 11,
  po_ 27 (.bin 3 .add (.t 26) (ci_ 1)),
  mv_ 11 27] [7, 8, 9, 10, 11])
def Vq : Af := .seq (.seq (.ops [mv_ 23 11,
  mv_ 24 8,
  po_ 25 (.bin 3 .lss (.t 23) (.t 24))] [7, 8, 9, 10, 11, 25])
 (.cond (.t 25)
 (.skip)
 (.exit 0)))
 Adi
def Adw : Af := .block 0 (.loop [7, 8, 9, 10, 11] Vq)
def Ac8 : Af := .seq (.ops [mv_ 46 9,
  mv_ 47 10,
  mv_ 4 46,
  mv_ 5 47] [4, 5])
 (.ret)
def Adb : Af := .seq (.seq (.ops [po_ 11 (.mov (ci_ 0))] [7, 8, 9, 10, 11])
 Adw)
 Ac8
def Ade : Af := .seq (.ops [po_ 10 (.mov (ci_ 0))] [7, 8, 9, 10])
 Adb
def Ads : Af := .seq (.ops [mv_ 22 6,
  mv_ 9 22] [7, 8, 9])
 Ade
def Ac2 : Af := .seq (.seq (.ops [mv_ 20 1] [0, 6, 7, 8, 20])
 (.cond (.t 20)
 (.seq (.ops [po_ 6 (.mov (ci_ 1))] [0, 6])
  (.seq (.ops [po_ 7 (.mov (ci_ 2))] [0, 6, 7])
  (.ops [mv_ 21 0,
   mv_ 8 21] [6, 7, 8])))
 (.skip)))
 Ads
def AaK : Af := .seq (.ops [mv_ 18 0,
  po_ 19 (.bin 3 .sub (.t 18) (ci_ 257)),
  mv_ 8 19] [0, 1, 6, 7, 8])
 Ac2
def ZR : Af := .seq (.ops [po_ 7 (.mov (ci_ 4))] [0, 1, 6, 7])
 AaK
def AaX : Af := .seq (.ops [po_ 6 (.mov (ci_ 3))] [0, 1, 6])
 ZR
def AaT : Af := .seq (.seq (.ops [mv_ 12 1,
  po_ 13 (.un .not (.t 12)),
  mv_ 14 13,
  ⟨some 15, .p (.mov (.t 0)), some ⟨14, true⟩⟩,
  ⟨some 16, .p (.bin 3 .eql (.t 15) (ci_ 285)), some ⟨14, true⟩⟩,
  po_ 17 (.pick (.t 14) (.t 16) (.c (.bool false)))] [0, 1, 17])
 (.cond (.t 17)
 (.seq (.ops [po_ 4 (.mov (ci_ 258)),
   po_ 5 (.mov (ci_ 0))] [4, 5])
  (.ret))
 (.skip)))
 AaX
def AiV : Af := .seq (.ops [po_ 4 (.mov (ci_ 0)),
  po_ 5 (.mov (ci_ 0))] [0, 1])
 AaT
def Ah5 : List VR := [.tmp 4, .tmp 5]
theorem AmF : Tryd.f56.body.bind (trC Tryd.prog Tryd.f56.ntmps) = some (er AiV) := by kernel_rfl
theorem Ani : trR Tryd.prog Tryd.f56.results.toList = some Ah5 := by kernel_rfl
def Aho := Aa Adj.eq_1
def Ahq := Aa Adi.eq_1
def Ahw := Aa Vq.eq_1
def Ahf := Aa Adw.eq_1
def Ag8 := Aa Ac8.eq_1
def Ag4 := Aa Adb.eq_1
def AhH := Aa Ade.eq_1
def AhA := Aa Ads.eq_1
def Ahb := Aa Ac2.eq_1
def AfP := Aa AaK.eq_1
def Agf := Aa ZR.eq_1
def Af8 := Aa AaX.eq_1
def Agx := Aa AaT.eq_1
def AkW := Aa AiV.eq_1
theorem Ako {K : TV → Prop} {e : Env} {H : List Ob} : res Ah5 e H K = res [.tmp 4, .tmp 5] e H K := Ad rfl
def DT := (And.intro (And.intro (And.intro (And.intro @Aho @Ahq) (And.intro @Ahw @Ahf)) (And.intro (And.intro @Ag8 @Ag4) (And.intro @AhH @AhA))) (And.intro (And.intro (And.intro @Ahb @AfP) (And.intro @Agf @Af8)) (And.intro (And.intro @Agx @AkW) @Ako)))
def Alh := EK 48 Tryd.func56 AmF Ani rfl

def AaU : Af := .seq (.block 1 (.seq (.ops [mv_ 12 3,
  mv_ 13 0,
  mv_ 14 5,
  po_ 15 (.idxA 1 (.t 13) (.t 14)),
  po_ 16 (.load false 1 (.t 15)),
  po_ 17 (.conv .u32 (.t 16)),
  po_ 18 (.bin 36 .add (.t 12) (.t 17)),
  po_ 19 (.bin 36 .rem (.t 18) (.c (.int .u32 ((65521 : Nat) : Int)))),
  mv_ 3 19] [0, 3, 4, 5])
 (.ops [mv_ 20 4,
  mv_ 21 3,
  po_ 22 (.bin 36 .add (.t 20) (.t 21)),
  po_ 23 (.bin 36 .rem (.t 22) (.c (.int .u32 ((65521 : Nat) : Int)))),
  mv_ 4 23] [0, 3, 4, 5])))
 (.ops [mv_ 10 5,
  po_ 11 (.bin 3 .add (.t 10) (ci_ 1)),
  mv_ 5 11] [0, 3, 4, 5])
def Aau : Af := .seq (.seq (.ops [mv_ 6 5,
  mv_ 7 0,
  po_ 8 (.lenV (.t 7)),
  po_ 9 (.bin 3 .lss (.t 6) (.t 8))] [0, 3, 4, 5, 9])
 (.cond (.t 9)
 (.skip)
 (.exit 0)))
 AaU
def AaP : Af := .block 0 (.loop [0, 3, 4, 5] Aau)
def Abj : Af := .seq (.ops [mv_ 24 4,
  po_ 25 (.bin 36 .mul (.t 24) (.c (.int .u32 ((65536 : Nat) : Int)))),
  mv_ 26 3,
  po_ 27 (.bin 36 .add (.t 25) (.t 26)),
  mv_ 2 27] [2])
 (.ret)
def Aam : Af := .seq (.seq (.ops [po_ 5 (.mov (ci_ 0))] [0, 3, 4, 5])
 AaP)
 Abj
def Zz : Af := .seq (.ops [po_ 4 (.mov (.c (.int .u32 ((0 : Nat) : Int))))] [0, 3, 4])
 Aam
def AbI : Af := .seq (.ops [po_ 3 (.mov (.c (.int .u32 ((1 : Nat) : Int))))] [0, 3])
 Zz
def AgI : Af := .seq (.ops [po_ 2 (.mov (.c (.int .u32 ((0 : Nat) : Int))))] [0])
 AbI
def AgX : List VR := [.tmp 2]
theorem AlH : Tryd.f20.body.bind (trC Tryd.prog Tryd.f20.ntmps) = some (er AgI) := by kernel_rfl
theorem Al0 : trR Tryd.prog Tryd.f20.results.toList = some AgX := by kernel_rfl
def Agh := Aa AaU.eq_1
def Aga := Aa Aau.eq_1
def AfS := Aa AaP.eq_1
def Af0 := Aa Abj.eq_1
def Agk := Aa Aam.eq_1
def Af3 := Aa Zz.eq_1
def Agb := Aa AbI.eq_1
def Ajn := Aa AgI.eq_1
theorem Aja {K : TV → Prop} {e : Env} {H : List Ob} : res AgX e H K = res [.tmp 2] e H K := Ad rfl
def AaC := (And.intro (And.intro (And.intro (And.intro @Agh @Aga) (And.intro @AfS @Af0)) (And.intro (And.intro @Agk @Af3) (And.intro @Agb @Ajn))) @Aja)
def Aj7 := EK 28 Tryd.func20 AlH Al0 rfl

end Go.Proofs.YtfgljddikcghhaaDoor


namespace Go.Proofs.YtfgljddikcghhaaDoor
open Go.RowKit
variable [AO]
set_option linter.unusedSectionVars false
set_option linter.unusedVariables false
set_option linter.unusedSimpArgs false

/-- The bits of bytes. -/
def AC (b : List UInt8) : List Bool := b.flatMap fun b => AV 8 b.toNat
section
omit [AO]
theorem Bj (b : List UInt8) : (AC b).length = 8 * b.length := by
 have := V8 b 0 0
 simpa [HY, AV, AC] using this
theorem AhL : ∀ (n v i : Nat), i < n → (AV n v)[i]? = some (v / 2 ^ i % 2 == 1)
 | n + 1, v, 0, _ => by simp [AV]
 | n + 1, v, i + 1, h => by rw [AV, List.getElem?_cons_succ, AhL n (v / 2) i (by omega), Nat.div_div_eq_div_mul, Nat.pow_succ, Nat.mul_comm (2 ^ i) 2]
theorem Aqh : ∀ (b : List UInt8) (i : Nat) (c : UInt8), b[i / 8]? = some c → (AC b)[i]? = some (c.toNat / 2 ^ (i % 8) % 2 == 1)
 | [], i, c, h => by simp at h
 | x :: l, i, c, h => by
  unfold AC
  rw [List.flatMap_cons]
  by_cases hi : i < 8
  ·rw [List.getElem?_append_left (by rw [AZ]; exact hi), AhL 8 _ _ hi, Nat.mod_eq_of_lt hi]
   have : i / 8 = 0 := by omega
   rw [this] at h; simp at h; rw [h]
  ·rw [List.getElem?_append_right (by rw [AZ]; omega), AZ]
   have e : i / 8 = (i - 8) / 8 + 1 := by omega
   rw [e, List.getElem?_cons_succ] at h
   have := Aqh l (i - 8) c h
   rw [show (i - 8) % 8 = i % 8 by omega] at this
   exact this
theorem Aoi : ∀ (l : List Bool) (x : Bool), C9 (l ++ [x]) = C9 l + (if x then 1 else 0) * 2 ^ l.length
 | [], x => by simp [C9]
 | b :: l, x => by
  rw [List.cons_append, C9, C9, Aoi l x, List.length_cons, Nat.pow_succ]
  cases x <;> simp <;> omega
theorem Agm : ∀ (l : List Bool), C9 l < 2 ^ l.length
 | [] => by simp [C9]
 | b :: l => by
  have := Agm l
  rw [C9, List.length_cons, Nat.pow_succ]
  cases b <;> simp <;> omega
end
theorem Awr {t : TypeId} {a : Nat} (h : a ≤ 9223372036854775807) : D6 t .and (.int .i64 (a : Int)) (.int .i64 ((1 : Nat) : Int)) = some (.int .i64 ((a % 2 : Nat) : Int)) := by
 rw [AAZ (by omega) (by omega) (by omega) (by omega), Int.toNat_natCast, Int.toNat_natCast, Nat.and_one_is_mod]
abbrev stm (inn : List UInt8) (at_ : Nat) (o : TV) (m f : Int) (err : Nat) : Ob := .obj 0 (.agg [slB inn, i64 (at_ : Int), o, i64 m, i64 f, i64 (err : Int)])
theorem Aeh {id e err at_ : Nat} {inn : List UInt8} {o : TV} {m f : Int} {H : List Ob} (hw : AU o = 1) (h : H[id]? = some (stm inn at_ o m f err)) : Ap Tryd.prog 35 [.op id 0 [], i64 (e : Int)] H (fun x H' => H' = H.set id (stm inn at_ o m f (if err = 0 then e else err))) := by
 have hl : id < H.length := (List.getElem?_eq_some_iff.1 h).1
 refine AdE (by simp) ?_
 by_cases he : err = 0
 ·subst he
  rw [if_pos rfl]
  simp -dsimp (disch := first | assumption | omega | (simp only [Ae]; done) | (simp only [Ae]; omega)) only [↓Ag, Ac, Ah, Ai, eq_self, Nat.reduceEqDiff, ↓reduceIte, Nat.reduceAdd, reduceCtorEq, ↓UL, h, hw]
 ·rw [if_neg he]
  simp -dsimp (disch := first | assumption | omega | (simp only [Ae]; done) | (simp only [Ae]; omega)) only [↓Ag, Ac, Ah, Ai, eq_self, Nat.reduceEqDiff, ↓reduceIte, Nat.reduceAdd, reduceCtorEq, ↓UL, h, hw]
  exact (Bv h).symm
theorem AnX {id n err at_ : Nat} {inn : List UInt8} {o : TV} {m f : Int} {H : List Ob} (hw : AU o = 1) (h : H[id]? = some (stm inn at_ o m f err)) (hn : n ≤ 16) (hi : inn.length ≤ 1000000) (ha : at_ ≤ 8 * inn.length) : Ap Tryd.prog 34 [.op id 0 [], i64 (n : Int)] H
  (fun x H' => if at_ + n ≤ 8 * inn.length then x = i64 ((C9 (((AC inn).drop at_).take n) : Nat) : Int) ∧ H' = H.set id (stm inn (at_ + n) o m f err)
   else x = i64 ((0 : Nat) : Int) ∧ H' = H.set id (stm inn (8 * inn.length) o m f (if err = 0 then 10 else err))) := by
 have hl : id < H.length := (List.getElem?_eq_some_iff.1 h).1
 refine Ad6 (by simp) ?_
 simp -dsimp (disch := first | assumption | omega | (simp only [Ae]; done) | (simp only [Ae]; omega)) only [↓Ag, Ac, Ah, Ai, eq_self, Nat.reduceEqDiff, ↓reduceIte, Nat.reduceAdd, reduceCtorEq, ↓Dn]
 refine Bi (fun q e H' => ∃ k, q = n - k ∧ k ≤ n ∧ at_ + k ≤ 8 * inn.length ∧ e = [(0, .op id 0 []), (1, i64 (n : Int)), (5, i64 ((C9 (((AC inn).drop at_).take k) : Nat) : Int)), (6, i64 (k : Int))] ∧ H' = H.set id (stm inn (at_ + k) o m f err)) n ?_ ?_
 ·exact ⟨0, rfl, by omega, by omega, rfl, (Bv h).symm⟩
 ·rintro q e H' ⟨k, rfl, k1, k2, rfl, rfl⟩
  have h' : (H.set id (stm inn (at_ + k) o m f err))[id]? = some (stm inn (at_ + k) o m f err) := by simp [hl]
  by_cases hlt : k < n
  ·by_cases hen : at_ + k < 8 * inn.length
   ·obtain ⟨c, hc⟩ : ∃ c, inn[(at_ + k) / 8]? = some c := ⟨_, List.getElem?_eq_getElem (by omega)⟩
    have hq : c.toNat / 2 ^ ((at_ + k) % 8) ≤ 255 := Nat.le_trans (Nat.div_le_self _ _) (by have := c.toNat_lt; omega)
    have hp : 2 ^ k ≤ 2 ^ 15 := Nat.pow_le_pow_right (by omega) (by omega)
    have hsh : c.toNat / 2 ^ ((at_ + k) % 8) % 2 * 2 ^ k ≤ 1 * 2 ^ 15 := Nat.mul_le_mul (by omega) hp
    have hv : C9 (((AC inn).drop at_).take k) ≤ 2 ^ 15 := by
     have h1 := Agm (((AC inn).drop at_).take k)
     have h2 : (((AC inn).drop at_).take k).length = k := by rw [List.length_take, List.length_drop, Bj]; omega
     rw [h2] at h1; omega
    simp -dsimp (disch := first | assumption | omega | (simp only [Ae]; done) | (simp only [Ae]; omega)) only [↓Ag, Ac, Ah, Ai, eq_self, Nat.reduceEqDiff, ↓reduceIte, Nat.reduceAdd, reduceCtorEq, ↓Dn, h', hc, Awr]
    have hbit : ((AC inn).drop at_)[k]? = some (c.toNat / 2 ^ ((at_ + k) % 8) % 2 == 1) := by rw [List.getElem?_drop]; exact Aqh inn (at_ + k) c hc
    have hval : C9 (((AC inn).drop at_).take (k + 1)) = C9 (((AC inn).drop at_).take k) + c.toNat / 2 ^ ((at_ + k) % 8) % 2 * 2 ^ k := by
     rw [List.take_add_one, hbit, Option.toList_some, Aoi]
     have h2 : (((AC inn).drop at_).take k).length = k := by rw [List.length_take, List.length_drop, Bj]; omega
     rw [h2]
     rcases Nat.mod_two_eq_zero_or_one (c.toNat / 2 ^ ((at_ + k) % 8)) with h3 | h3 <;> rw [h3] <;> rfl
    exact Am (n - (k + 1)) (by omega) (by simp) ⟨k + 1, rfl, by omega, by omega, by rw [hval]; rfl, rfl⟩
   ·simp -dsimp (disch := first | assumption | omega | (simp only [Ae]; done) | (simp only [Ae]; omega)) only [↓Ag, Ac, Ah, Ai, eq_self, Nat.reduceEqDiff, ↓reduceIte, Nat.reduceAdd, reduceCtorEq, ↓Dn, h']
    refine (Aeh (e := 10) hw h').mono fun x H' hx => ?_
    subst hx
    simp -dsimp (disch := first | assumption | omega | (simp only [Ae]; done) | (simp only [Ae]; omega)) only [↓Ag, Ac, Ah, Ai, eq_self, Nat.reduceEqDiff, ↓reduceIte, reduceCtorEq, ↓Dn]
    rw [show at_ + k = 8 * inn.length by omega]
  ·have hkn : k = n := by omega
   subst hkn
   simp -dsimp (disch := first | assumption | omega | (simp only [Ae]; done) | (simp only [Ae]; omega)) only [↓Ag, Ac, Ah, Ai, eq_self, Nat.reduceEqDiff, ↓reduceIte, reduceCtorEq, ↓Dn]
theorem Ayl {id err at_ : Nat} {inn l : List UInt8} {o : TV} {m f : Int} {b : UInt8} {H : List Ob} {J : Option Nat} (h : H[id]? = some (stm inn at_ o m f err)) (hr : AkX H o l J) (hJ : J ≠ some id) (hl : l.length ≤ 1000000) (hm : -9223372036854775808 ≤ m ∧ m ≤ 9223372036854775807) :
  Ap Tryd.prog 53 [.op id 0 [], by8 b] H (fun x H' => if err ≠ 0 then H' = H else if m ≤ (l.length : Int) then H' = H.set id (stm inn at_ o m f 11)
   else ∃ o' j, H'[id]? = some (stm inn at_ o' m f err) ∧ AkX H' o' (l ++ [b]) (some j) ∧ j ≠ id ∧ (J = some j ∨ H.length ≤ j) ∧ (∀ i, i < H.length → i ≠ id → J ≠ some i → H'[i]? = H[i]?) ∧ H.length ≤ H'.length) := by
 have hid : id < H.length := (List.getElem?_eq_some_iff.1 h).1
 refine TJ (by simp) ?_
 cases J with
 | none =>
  obtain ⟨rfl, rfl⟩ := hr
  by_cases he : err = 0
  ·subst he
   by_cases hlm : m ≤ 0
   ·simp -dsimp (disch := first | assumption | omega | (simp only [Ae]; done) | (simp only [Ae]; omega)) only [↓Ag, Ac, Ah, Ai, eq_self, forall_const, Nat.reduceEqDiff, ↓reduceIte, Nat.reduceAdd, reduceCtorEq, ↓BX, h]
   ·simp -dsimp (disch := first | assumption | omega | (simp only [Ae]; done) | (simp only [Ae]; omega)) only [↓Ag, Ac, Ah, Ai, eq_self, Nat.reduceEqDiff, ↓reduceIte, Nat.reduceAdd, reduceCtorEq, Nat.reduceLeDiff, ↓BX, h, DJ]
    refine ⟨_, H.length + 1, rfl, ⟨1, rfl, ?_⟩, by omega, .inr (by omega), fun i hi hn _ => ?_, by omega⟩
    ·rw [List.getElem?_append_right (by simp)]; simp
    ·rw [List.append_assoc, List.getElem?_append_left (by simpa using hi), List.getElem?_set_ne (Ne.symm hn)]
  ·simp -dsimp (disch := first | assumption | omega | (simp only [Ae]; done) | (simp only [Ae]; omega)) only [↓Ag, Ac, Ah, Ai, eq_self, forall_const, Nat.reduceEqDiff, ↓reduceIte, Nat.reduceAdd, reduceCtorEq, ↓BX, h]
 | some j =>
  obtain ⟨v, rfl, hj⟩ := hr
  have hne : j ≠ id := fun e => hJ (by rw [e])
  have hne' : id ≠ j := fun e => hne e.symm
  have hjl : j < H.length := (List.getElem?_eq_some_iff.1 hj).1
  by_cases he : err = 0
  ·subst he
   by_cases hlm : m ≤ (l.length : Int)
   ·simp -dsimp (disch := first | assumption | omega | (simp only [Ae]; done) | (simp only [Ae]; omega)) only [↓Ag, Ac, Ah, Ai, eq_self, forall_const, Nat.reduceEqDiff, ↓reduceIte, Nat.reduceAdd, reduceCtorEq, ↓BX, h]
   ·simp -dsimp (disch := first | assumption | omega | (simp only [Ae]; done) | (simp only [Ae]; omega)) only [↓Ag, Ac, Ah, Ai, eq_self, Nat.reduceEqDiff, ↓reduceIte, Nat.reduceAdd, reduceCtorEq, Nat.reduceLeDiff, ↓BX, h, hj, DJ]
    refine ⟨_, j, rfl, ⟨v + 1, by simp, ?_⟩, hne, .inl rfl, fun i hi hn hn2 => ?_, by omega⟩
    ·rw [List.getElem?_append_left (by simpa using hjl), List.getElem?_set_ne hne', List.getElem?_set_self hjl, List.length_append, List.map_append]; rfl
    ·have hij : j ≠ i := fun e => hn2 (by rw [e])
     rw [List.getElem?_append_left (by simpa using hi), List.getElem?_set_ne (Ne.symm hn), List.getElem?_set_ne hij]
  ·simp -dsimp (disch := first | assumption | omega | (simp only [Ae]; done) | (simp only [Ae]; omega)) only [↓Ag, Ac, Ah, Ai, eq_self, forall_const, Nat.reduceEqDiff, ↓reduceIte, Nat.reduceAdd, reduceCtorEq, ↓BX, h]
end Go.Proofs.YtfgljddikcghhaaDoor


namespace Go.Proofs.YtfgljddikcghhaaDoor
open Go.RowKit
variable [AO]
set_option linter.unusedSectionVars false
set_option linter.unusedVariables false
set_option linter.unusedSimpArgs false

/-- The program's. -/
def Bl (f g k : Nat) : Nat × Nat := if k / g ≤ 1 then (f + k, 0) else (f + g * 2 ^ (k / g - 1) + k % g * 2 ^ (k / g - 1), k / g - 1)
/-- The document's. -/
def JA (f g : Nat) : Nat → Nat × Nat
 | 0 => (f, 0)
 | i + 1 => ((JA f g i).1 + 2 ^ (JA f g i).2, if 2 * g ≤ i + 1 ∧ (i + 1) % g = 0 then (JA f g i).2 + 1 else (JA f g i).2)
abbrev spn (p : Nat × Nat) : TV := .agg [i64 (p.1 : Int), i64 (p.2 : Int)]
theorem Asw (k f g : Nat) (hk : k ≤ 30) (hf : f ≤ 3) (hg : g = 4 ∨ g = 2) : D5 Tryd.prog 58 [i64 (k : Int), i64 (f : Int), i64 (g : Int)] (fun x => x = spn (Bl f g k)) := by
 refine Ap.toPureV (Agi (by simp) ?_)
 have g0 : g ≠ 0 := by omega
 have hq : k / g ≤ 15 := by rcases hg with rfl | rfl <;> omega
 have hr : k % g < g := Nat.mod_lt _ (by omega)
 unfold Bl
 by_cases h1 : k / g ≤ 1
 ·rw [if_pos h1]
  by_cases h2 : k / g = 0
  ·simp -dsimp (disch := first | assumption | omega) only [↓Ag, Ac, Ah, Ai, eq_self, Nat.reduceEqDiff, ↓reduceIte, Nat.reduceAdd, reduceCtorEq, ↓D8]
  ·have h3 : k / g = 1 := Nat.le_antisymm h1 (Nat.one_le_iff_ne_zero.2 h2)
   simp -dsimp (disch := first | assumption | omega) only [↓Ag, Ac, Ah, Ai, eq_self, Nat.reduceLT, Nat.reduceEqDiff, Nat.reduceSub, ↓reduceIte, Nat.reduceAdd, reduceCtorEq, ↓D8, h3]
 ·rw [if_neg h1]
  have hpw : ∀ b, b ≤ 15 → g * 2 ^ b ≤ 4 * 2 ^ 15 := fun b hb => Nat.mul_le_mul (by omega) (Nat.pow_le_pow_right (by omega) hb)
  have hrw : k % g * 2 ^ (k / g - 1) ≤ 4 * 2 ^ 15 := Nat.mul_le_mul (by omega) (Nat.pow_le_pow_right (by omega) (by omega))
  have hp1 := hpw (k / g - 1) (by omega)
  simp -dsimp (disch := first | assumption | omega) only [↓Ag, Ac, Ah, Ai, eq_self, Nat.reduceEqDiff, ↓reduceIte, Nat.reduceAdd, reduceCtorEq, ↓D8]
  refine Bi (fun q e H => ∃ b : Nat, q = k / g - 1 - b ∧ 1 ≤ b ∧ b ≤ k / g - 1 ∧ e = [(0, i64 (k : Int)), (2, i64 (g : Int)), (6, .op 0 0 []), (7, i64 ((k / g - 1 : Nat) : Int)), (8, i64 ((f + g * 2 ^ b : Nat) : Int)), (9, i64 (b : Int))] ∧ H = [.obj 0 (.agg [i64 ((0 : Nat) : Int), i64 ((0 : Nat) : Int)])]) (k / g - 2) ?_ ?_
  ·exact ⟨1, by omega, by omega, by omega, by rw [show f + g * 2 ^ 1 = f + 2 * g by omega]; rfl, rfl⟩
  ·rintro q e H ⟨b, rfl, hb1, hb2, rfl, rfl⟩
   have hp2 := hpw b (by omega)
   by_cases hlt : b < k / g - 1
   ·simp -dsimp (disch := first | assumption | omega) only [↓Ag, Ac, Ah, Ai, eq_self, Nat.reduceEqDiff, ↓reduceIte, reduceCtorEq, ↓D8]
    exact Am (k / g - 1 - (b + 1)) (by omega) (by simp) ⟨b + 1, rfl, by omega, by omega, by rw [show f + g * 2 ^ (b + 1) = f + g * 2 ^ b + g * 2 ^ b by rw [Nat.pow_succ, ← Nat.mul_assoc]; omega]; rfl, rfl⟩
   ·have hbe : b = k / g - 1 := by omega
    subst hbe
    simp -dsimp (disch := first | assumption | omega) only [↓Ag, Ac, Ah, Ai, eq_self, Nat.reduceEqDiff, ↓reduceIte, Nat.reduceAdd, reduceCtorEq, ↓D8]
theorem Ah7 (s : Nat) (h : 257 ≤ s ∧ s ≤ 285) : D5 Tryd.prog 44 [i64 (s : Int)] (fun x => x = spn (if s = 285 then (258, 0) else Bl 3 4 (s - 257))) := by
 refine Ap.toPureV (Abu (by simp) ?_)
 obtain ⟨h1, h2⟩ := h
 by_cases h3 : s = 285
 ·subst h3
  simp -dsimp (disch := first | assumption | omega) only [↓Ag, Ac, Ah, Ai, eq_self, Nat.reduceEqDiff, ↓reduceIte, Nat.reduceAdd, reduceCtorEq, ↓FU]
 ·rw [if_neg h3]
  simp -dsimp (disch := first | assumption | omega) only [↓Ag, Ac, Ah, Ai, eq_self, Nat.reduceEqDiff, ↓reduceIte, reduceCtorEq, ↓FU]
  refine (Asw (s - 257) 3 4 (by omega) (by omega) (.inl rfl)).calls rfl ?_
  rintro _ rfl
  simp -dsimp (disch := first | assumption | omega) only [↓Ag, Ac, Ah, Ai, eq_self, Nat.reduceEqDiff, ↓reduceIte, Nat.reduceAdd, reduceCtorEq, ↓FU]
theorem Ae9 (s : Nat) (h : s ≤ 29) : D5 Tryd.prog 45 [i64 (s : Int)] (fun x => x = spn (Bl 1 2 s)) := by
 refine Ap.toPureV (Xu (by simp) ?_)
 simp -dsimp (disch := first | assumption | omega) only [↓Ag, Ac, Ah, Ai, eq_self, ↓reduceIte, reduceCtorEq, ↓Ll]
 refine (Asw s 1 2 (by omega) (by omega) (.inr rfl)).calls rfl ?_
 rintro _ rfl
 simp -dsimp (disch := first | assumption | omega) only [↓Ag, Ac, Ah, Ai, eq_self, Nat.reduceEqDiff, ↓reduceIte, Nat.reduceAdd, reduceCtorEq, ↓Ll]
section
omit [AO]
theorem AkE : ∀ k, k < 28 → JA 3 4 k = Bl 3 4 k := by decide
theorem Ah3 : ∀ k, k < 30 → JA 1 2 k = Bl 1 2 k := by decide
theorem Aew : ∀ k, k < 31 → (JA 3 4 k).1 ≤ 1000 ∧ (JA 3 4 k).2 ≤ 10 := by decide
theorem Afv : ∀ k, k < 31 → (JA 1 2 k).1 ≤ 100000 ∧ (JA 1 2 k).2 ≤ 15 := by decide
end
theorem Ajz (f g k : Nat) (hk : k ≤ 30) (hg : g = 4 ∨ g = 2) (hb : ∀ i, i < 31 → (JA f g i).1 ≤ 100000 ∧ (JA f g i).2 ≤ 15) {Q : VEx → Env → List Ob → Prop} (h : ∀ y, Q .nor [(7, i64 (g : Int)), (8, i64 (k : Int)), (9, i64 ((JA f g k).1 : Int)), (10, i64 ((JA f g k).2 : Int)), (11, i64 (k : Int)), (25, y)] []) :
  vwp Tryd.prog (.loop [7, 8, 9, 10, 11] Vq) (Blk 0 Q) [(7, i64 (g : Int)), (8, i64 (k : Int)), (9, i64 (f : Int)), (10, i64 ((0 : Nat) : Int)), (11, i64 ((0 : Nat) : Int))] [] := by
 refine Bi (fun q e H => ∃ i : Nat, q = k - i ∧ i ≤ k ∧ e = [(7, i64 (g : Int)), (8, i64 (k : Int)), (9, i64 ((JA f g i).1 : Int)), (10, i64 ((JA f g i).2 : Int)), (11, i64 (i : Int))] ∧ H = []) k ?_ ?_
 ·exact ⟨0, rfl, by omega, rfl, rfl⟩
 ·rintro q e H ⟨i, rfl, hi, rfl, rfl⟩
  obtain ⟨b1, b2⟩ := hb i (by omega)
  have g0 : g ≠ 0 := by omega
  by_cases hlt : i < k
  ·have hp : 2 ^ (JA f g i).2 ≤ 2 ^ 15 := Nat.pow_le_pow_right (by omega) b2
   have hs1 : (JA f g (i + 1)).1 = (JA f g i).1 + 1 * 2 ^ (JA f g i).2 := by rw [Nat.one_mul]; rfl
   by_cases hc : 2 * g ≤ i + 1
   ·by_cases hc2 : (i + 1) % g = 0
    ·have hs2 : (JA f g (i + 1)).2 = (JA f g i).2 + 1 := by simp [JA, hc, hc2]
     simp -dsimp (disch := first | assumption | omega) only [↓Ag, Ac, Ah, Ai, eq_self, Nat.reduceEqDiff, ↓reduceIte, ↓DT, hc2]
     exact Am (k - (i + 1)) (by omega) (by simp) ⟨i + 1, rfl, by omega, by rw [hs1, hs2]; rfl, rfl⟩
    ·have hs2 : (JA f g (i + 1)).2 = (JA f g i).2 := by simp [JA, hc2]
     simp -dsimp (disch := first | assumption | omega) only [↓Ag, Ac, Ah, Ai, eq_self, Nat.reduceEqDiff, ↓reduceIte, ↓DT, hc2]
     exact Am (k - (i + 1)) (by omega) (by simp) ⟨i + 1, rfl, by omega, by rw [hs1, hs2]; rfl, rfl⟩
   ·have hs2 : (JA f g (i + 1)).2 = (JA f g i).2 := by simp [JA, hc]
    simp -dsimp (disch := first | assumption | omega) only [↓Ag, Ac, Ah, Ai, eq_self, Nat.reduceEqDiff, ↓reduceIte, ↓DT]
    exact Am (k - (i + 1)) (by omega) (by simp) ⟨i + 1, rfl, by omega, by rw [hs1, hs2]; rfl, rfl⟩
  ·have hik : i = k := by omega
   subst hik
   simp -dsimp (disch := first | assumption | omega) only [↓Ag, Ac, Ah, Ai, eq_self, Nat.reduceEqDiff, ↓reduceIte, ↓DT]
   exact h _
theorem AnR (s : Nat) (d : Bool) (h : if d then s ≤ 29 else 257 ≤ s ∧ s ≤ 285) : D5 Tryd.prog 56 [i64 (s : Int), tb d] (fun x => x = .tup [i64 ((if d then Bl 1 2 s else if s = 285 then (258, 0) else Bl 3 4 (s - 257)).1 : Int), i64 ((if d then Bl 1 2 s else if s = 285 then (258, 0) else Bl 3 4 (s - 257)).2 : Int)]) := by
 refine Ap.toPureV (Alh (by simp) ?_)
 cases d with
 | true =>
  have h' : s ≤ 29 := h
  simp -dsimp (disch := first | assumption | omega) only [↓Ag, Ac, Ah, Ai, eq_self, Nat.reduceEqDiff, ↓reduceIte, Nat.reduceAdd, reduceCtorEq, ↓DT]
  refine Ajz 1 2 s (by omega) (.inr rfl) (fun i hi => Afv i hi) fun y => ?_
  simp -dsimp (disch := first | assumption | omega) only [↓Ag, Ac, Ah, Ai, eq_self, Nat.reduceEqDiff, ↓reduceIte, ↓DT]
  rw [Ah3 s (by omega)]
 | false =>
  have h' : 257 ≤ s ∧ s ≤ 285 := h
  obtain ⟨h1, h2⟩ := h'
  by_cases h3 : s = 285
  ·subst h3
   simp -dsimp (disch := first | assumption | omega) only [↓Ag, Ac, Ah, Ai, eq_self, Nat.reduceEqDiff, ↓reduceIte, Nat.reduceAdd, reduceCtorEq, ↓DT]
  ·simp -dsimp (disch := first | assumption | omega) only [↓Ag, Ac, Ah, Ai, eq_self, Nat.reduceEqDiff, ↓reduceIte, Nat.reduceAdd, reduceCtorEq, ↓DT]
   refine Ajz 3 4 (s - 257) (by omega) (.inl rfl) (fun i hi => ⟨by have := (Aew i hi).1; omega, by have := (Aew i hi).2; omega⟩) fun y => ?_
   simp -dsimp (disch := first | assumption | omega) only [↓Ag, Ac, Ah, Ai, eq_self, Nat.reduceEqDiff, ↓reduceIte, ↓DT]
   rw [AkE (s - 257) (by omega)]
end Go.Proofs.YtfgljddikcghhaaDoor


namespace Go.Proofs.YtfgljddikcghhaaDoor
open Go.RowKit
variable [AO]
set_option linter.unusedSectionVars false
set_option linter.unusedVariables false

section
omit [AO]
/-- Bytes that come out one by one; none: they are too many. -/
def Aeo (most : Int) : List UInt8 → List UInt8 → Option (List UInt8)
 | l, [] => some l
 | l, b :: r => if most ≤ (l.length : Int) then none else Aeo most (l ++ [b]) r
/-- So many bytes again, from so far back. -/
def Om (most : Int) (far : Nat) : Nat → List UInt8 → Option (List UInt8)
 | 0, l => some l
 | n + 1, l => if most ≤ (l.length : Int) then none else Om most far n (l ++ [(l[l.length - far]?).getD 0])
/-- A reader of a code: the symbol, what is left. -/
abbrev Rd := List Bool → Option (Nat × List Bool)
/-- What is left and what came out, or the error. -/
abbrev Res := Except Nat (List Bool × List UInt8)
def Ed (y : Nat) : Nat × Nat := if y = 285 then (258, 0) else Bl 3 4 (y - 257)
/-- A length and a distance, behind the symbol y: which, what is left. -/
def Ay3 (sd : Rd) (y : Nat) (B : List Bool) : Option (Nat × Nat × List Bool) :=
 if B.length < (Ed y).2 then none else match sd (B.drop (Ed y).2) with
 | none => none
 | some (d, B2) => if 29 < d then none else if B2.length < (Bl 1 2 d).2 then none else
  some ((Ed y).1 + C9 (B.take (Ed y).2), (Bl 1 2 d).1 + C9 (B2.take (Bl 1 2 d).2), B2.drop (Bl 1 2 d).2)
/-- The symbols of a block. -/
def AgV (sl sd : Rd) (most win : Int) : Nat → List Bool → List UInt8 → Res
 | 0, _, _ => .error 10
 | f + 1, B, l => match sl B with
  | none => .error 10
  | some (y, B1) =>
   if y < 256 then (if most ≤ (l.length : Int) then .error 11 else AgV sl sd most win f B1 (l ++ [UInt8.ofNat y]))
   else if y = 256 then .ok (B1, l)
   else if 285 < y then .error 10
   else match Ay3 sd y B1 with
    | none => .error 10
    | some (n, far, B2) => if l.length < far ∨ win < (far : Int) then .error 10 else match Om most far n l with
     | none => .error 11
     | some l' => AgV sl sd most win f B2 l'
/-- The third code's lengths, k of them. -/
def RZ : List Nat := [16, 17, 18, 0, 8, 7, 9, 6, 10, 5, 11, 4, 12, 3, 13, 2, 14, 1, 15]
def Gl (B : List Bool) : Nat → List Nat
 | 0 => List.replicate 19 0
 | i + 1 => (Gl B i).set (RZ.getD i 0) (C9 ((B.drop (3 * i)).take 3))
/-- What a symbol of the third code asks for: so many bits more, how often at least, what. -/
def Tv (y : Nat) (row : List Nat) : Option (Nat × Nat × Nat) :=
 if y = 16 then row.getLast?.map fun w => (2, 3, w) else if y = 17 then some (3, 3, 0) else if y = 18 then some (7, 11, 0) else some (0, 1, y)
/-- The lengths of the two codes. -/
def Q9 (sc : Rd) (tot : Nat) : Nat → List Bool → List Nat → Option (List Nat × List Bool)
 | 0, _, _ => none
 | f + 1, B, row => if tot ≤ row.length then some (row, B) else match sc B with
  | none => none
  | some (y, B1) => match Tv y row with
   | none => none
   | some (n, base, what) => if B1.length < n then none else if tot < row.length + (base + C9 (B1.take n)) then none else
    Q9 sc tot f (B1.drop n) (row ++ List.replicate (base + C9 (B1.take n)) what)
/-- The lengths that are told, before it is asked whether they are codes. -/
def Aee (okc : List Nat → Bool → Bool → Bool) (rd : List Nat → Rd) (B : List Bool) : Option (List Nat × List Nat × List Bool) :=
 if B.length < 14 then none else
 if 286 < C9 (B.take 5) + 257 ∨ 30 < C9 ((B.drop 5).take 5) + 1 then none else
 if B.length < 14 + 3 * (C9 ((B.drop 10).take 4) + 4) then none else
 if okc (Gl (B.drop 14) (C9 ((B.drop 10).take 4) + 4)) false false = false then none else
 match Q9 (rd (Gl (B.drop 14) (C9 ((B.drop 10).take 4) + 4))) (C9 (B.take 5) + 257 + (C9 ((B.drop 5).take 5) + 1)) (C9 (B.take 5) + 257 + (C9 ((B.drop 5).take 5) + 1) + 1) (B.drop (14 + 3 * (C9 ((B.drop 10).take 4) + 4))) [] with
 | none => none
 | some (row, B') => if row.getD 256 0 = 0 then none else some (row.take (C9 (B.take 5) + 257), row.drop (C9 (B.take 5) + 257), B')
def FZ : List Nat := List.replicate 144 8 ++ List.replicate 112 9 ++ List.replicate 24 7 ++ List.replicate 8 8
def PI : List Nat := List.replicate 32 5
/-- Bytes out of bits. -/
def AgY (n : Nat) (B : List Bool) : List UInt8 := (List.range n).map fun i => UInt8.ofNat (C9 ((B.drop (8 * i)).take 8))
/-- A block that is stored. -/
def Yg (most : Int) (B : List Bool) (l : List UInt8) : Res :=
 let C := B.drop (B.length % 8)
 if C.length < 32 ∨ C9 (C.take 16) + C9 ((C.drop 16).take 16) ≠ 65535 ∨ C.length < 32 + 8 * C9 (C.take 16) then .error 10 else
 match Aeo most l (AgY (C9 (C.take 16)) (C.drop 32)) with
 | none => .error 11
 | some l' => .ok (C.drop (32 + 8 * C9 (C.take 16)), l')
/-- A block of a kind. -/
def Ahn (okc : List Nat → Bool → Bool → Bool) (rd : List Nat → Rd) (most win : Int) (f : Nat) (C : List Bool) (l : List UInt8) : Nat → Res
 | 0 => Yg most C l
 | 1 => AgV (rd FZ) (rd PI) most win f C l
 | 2 => (match Aee okc rd C with
  | none => .error 10
  | some (a, b, B') => if okc a true false && okc b true true then AgV (rd a) (rd b) most win f B' l else .error 10)
 | _ => .error 10
/-- A block: and whether it is the last one. -/
def P8 (okc : List Nat → Bool → Bool → Bool) (rd : List Nat → Rd) (most win : Int) (B : List Bool) (l : List UInt8) : Bool × Res :=
 if B.length < 3 then (true, .error 10) else
 (C9 (B.take 1) == 1, Ahn okc rd most win (B.length + 1) (B.drop 3) l (C9 ((B.drop 1).take 2)))
def EX (okc : List Nat → Bool → Bool → Bool) (rd : List Nat → Rd) (most win : Int) : Nat → List Bool → List UInt8 → Res
 | 0, _, _ => .error 10
 | f + 1, B, l => match P8 okc rd most win B l with
  | (_, .error e) => .error e
  | (true, .ok r) => .ok r
  | (false, .ok (B', l')) => EX okc rd most win f B' l'
/-- The sum at the end, and how many bytes are left; what came out, or the error. -/
def O0 (b0 b1 : Nat) : Bool := b0 % 16 == 8 && decide (b0 / 16 ≤ 7) && decide ((b0 * 256 + b1) % 31 = 0) && b1 / 32 % 2 == 0
def AsC (n : Nat) (B : List Bool) : Nat := (AgY n B).foldl (fun s b => s * 256 + b.toNat) 0
def Aji (okc : List Nat → Bool → Bool → Bool) (rd : List Nat → Rd) (adl : List UInt8 → Nat) (b : List UInt8) (most : Int) : Except Nat (List UInt8 × Nat) :=
 match b with
 | x :: y :: r => if O0 x.toNat y.toNat then (match EX okc rd most ((2 ^ (x.toNat / 16 + 8) : Nat) : Int) (8 * r.length + 1) (AC r) [] with
  | .error e => .error e
  | .ok (B, l) => if (B.drop (B.length % 8)).length < 32 then .error 10 else if AsC 4 (B.drop (B.length % 8)) = adl l then .ok (l, b.length - (B.length / 8 - 4)) else .error 10) else .error 10
 | _ => .error 10
end
end Go.Proofs.YtfgljddikcghhaaDoor


namespace Go.Proofs.YtfgljddikcghhaaDoor
open Go.RowKit
variable [AO]
set_option linter.unusedSectionVars false
set_option linter.unusedVariables false
set_option linter.unusedSimpArgs false

/-- The first symbol of this length with these bits. -/
def Ae0 (ls bs : List Nat) (n v : Nat) : Option Nat := (List.range ls.length).find? fun i => decide (ls[i]? = some n ∧ bs[i]? = some v)
/-- A symbol out of the bits, n of which (the number v) are read already: which, how many bits are read; or none: all bits up to the 15th are read. -/
def Ajm (ls bs : List Nat) : Nat → Nat → Nat → List Bool → Option (Nat × Nat)
 | 0, _, _, _ => none
 | _ + 1, _, _, [] => none
 | k + 1, n, v, b :: B => match Ae0 ls bs (n + 1) (v * 2 + (if b then 1 else 0)) with
  | some i => some (i, n + 1)
  | none => Ajm ls bs k (n + 1) (v * 2 + (if b then 1 else 0)) B
abbrev Cc (l : List Nat) : TV := .sl 1 (l.map fun (n : Nat) => i64 (n : Int))
theorem ACH {id n v : Nat} {ls bs : List Nat} {H : List Ob} {L : Nat} {Q : VEx → Env → List Ob → Prop} (hlen : ls.length = bs.length) (hl3 : ls.length ≤ 1000) (hL : H[L]? = some (.obj 0 (.agg [Cc ls, Cc bs]))) (hn : n ≤ 15) (hv : v ≤ 65536)
  (h1 : ∀ i, Ae0 ls bs n v = some i → Q .ret [(4, i64 (i : Int))] H) (h2 : ∀ y, Ae0 ls bs n v = none → Q .nor [(0, .op id 0 []), (3, .op L 0 []), (5, i64 (v : Int)), (6, i64 (n : Int)), (7, i64 (ls.length : Int)), (26, y)] H) :
  vwp Tryd.prog (.loop [0, 3, 5, 6, 7] DW) (Blk 2 Q) [(0, .op id 0 []), (3, .op L 0 []), (5, i64 (v : Int)), (6, i64 (n : Int)), (7, i64 ((0 : Nat) : Int))] H := by
 have hLl : L < H.length := (List.getElem?_eq_some_iff.1 hL).1
 refine Bi (fun q e H' => ∃ i : Nat, q = ls.length - i ∧ i ≤ ls.length ∧ (∀ j, j < i → ¬ (ls[j]? = some n ∧ bs[j]? = some v)) ∧ e = [(0, .op id 0 []), (3, .op L 0 []), (5, i64 (v : Int)), (6, i64 (n : Int)), (7, i64 (i : Int))] ∧ H' = H) ls.length ?_ ?_
 ·exact ⟨0, rfl, by omega, fun j hj => by omega, rfl, rfl⟩
 ·rintro q e H' ⟨i, rfl, hi, hno, rfl, rfl⟩
  by_cases hlt : i < ls.length
  ·obtain ⟨a, ha⟩ : ∃ a, ls[i]? = some a := ⟨_, List.getElem?_eq_getElem hlt⟩
   obtain ⟨b, hb⟩ : ∃ b, bs[i]? = some b := ⟨_, List.getElem?_eq_getElem (by omega)⟩
   by_cases c1 : a = n
   ·by_cases c2 : b = v
    ·subst c1; subst c2
     simp -dsimp (disch := first | assumption | omega | (simp only [Ae]; done) | (simp only [Ae]; omega)) only [↓Ag, Ac, Ah, Ai, eq_self, Nat.reduceEqDiff, ↓reduceIte, Nat.reduceAdd, reduceCtorEq, ↓Az, hL, ha, hb]
     refine h1 i ?_
     unfold Ae0
     rw [List.find?_range_eq_some]
     exact ⟨by simp [ha, hb], by simpa using hlt, fun j hj => by rw [Bool.not_eq_true', decide_eq_false_iff_not]; exact hno j hj⟩
    ·simp -dsimp (disch := first | assumption | omega | (simp only [Ae]; done) | (simp only [Ae]; omega)) only [↓Ag, Ac, Ah, Ai, eq_self, Nat.reduceEqDiff, ↓reduceIte, Nat.reduceAdd, reduceCtorEq, ↓Az, hL, ha, hb]
     refine Am (ls.length - (i + 1)) (by omega) (Nat.le_refl _) ⟨i + 1, rfl, by omega, fun j hj => ?_, rfl, rfl⟩
     by_cases e : j = i
     ·subst e; rw [hb]; simp [c2]
     ·exact hno j (by omega)
   ·simp -dsimp (disch := first | assumption | omega | (simp only [Ae]; done) | (simp only [Ae]; omega)) only [↓Ag, Ac, Ah, Ai, eq_self, Nat.reduceEqDiff, ↓reduceIte, reduceCtorEq, ↓Az, hL, ha]
    refine Am (ls.length - (i + 1)) (by omega) (Nat.le_refl _) ⟨i + 1, rfl, by omega, fun j hj => ?_, rfl, rfl⟩
    by_cases e : j = i
    ·subst e; rw [ha]; simp [c1]
    ·exact hno j (by omega)
  ·have hik : i = ls.length := by omega
   subst hik
   simp -dsimp (disch := first | assumption | omega | (simp only [Ae]; done) | (simp only [Ae]; omega)) only [↓Ag, Ac, Ah, Ai, eq_self, Nat.reduceEqDiff, ↓reduceIte, reduceCtorEq, ↓Az, hL]
   refine h2 _ ?_
   unfold Ae0
   rw [List.find?_range_eq_none]
   intro j hj; rw [Bool.not_eq_true', decide_eq_false_iff_not]; exact hno j hj
theorem Au2 {id at_ : Nat} {inn : List UInt8} {o : TV} {m f : Int} {ls bs : List Nat} {H : List Ob} (hw : AU o = 1) (h : H[id]? = some (stm inn at_ o m f 0)) (hi : inn.length ≤ 1000000) (ha : at_ ≤ 8 * inn.length) (hlen : ls.length = bs.length) (hl3 : ls.length ≤ 1000) :
  Ap Tryd.prog 55 [.op id 0 [], .agg [Cc ls, Cc bs]] H
  (fun x H' => match Ajm ls bs 15 0 0 ((AC inn).drop at_) with
   | some (i, n) => x = i64 (i : Int) ∧ ∀ k, k < H.length → H'[k]? = (H.set id (stm inn (at_ + n) o m f 0))[k]?
   | none => x = i64 (-1) ∧ ∃ a, a ≤ 8 * inn.length ∧ ∀ k, k < H.length → H'[k]? = (H.set id (stm inn a o m f 10))[k]?) := by
 have hid : id < H.length := (List.getElem?_eq_some_iff.1 h).1
 refine MB (by simp) ?_
 simp -dsimp (disch := first | assumption | omega | (simp only [Ae]; done) | (simp only [Ae]; omega)) only [↓Ag, Ac, Ah, Ai, eq_self, Nat.reduceEqDiff, ↓reduceIte, Nat.reduceAdd, reduceCtorEq, ↓Az]
 refine Bi (fun q e H' => ∃ n v : Nat, q = 15 - n ∧ n ≤ 15 ∧ v < 2 ^ n ∧ at_ + n ≤ 8 * inn.length ∧ Ajm ls bs 15 0 0 ((AC inn).drop at_) = Ajm ls bs (15 - n) n v ((AC inn).drop (at_ + n)) ∧ e = [(0, .op id 0 []), (3, .op H.length 0 []), (5, i64 (v : Int)), (6, i64 ((n + 1 : Nat) : Int))] ∧ H' = H.set id (stm inn (at_ + n) o m f 0) ++ [.obj 0 (.agg [Cc ls, Cc bs])]) 15 ?_ ?_
 ·exact ⟨0, 0, rfl, by omega, by omega, by omega, rfl, rfl, by rw [Nat.add_zero, Bv h]⟩
 ·rintro q e H' ⟨n, v, rfl, hn, hv, hat, hs, rfl, rfl⟩
  have h' : (H.set id (stm inn (at_ + n) o m f 0) ++ [.obj 0 (.agg [Cc ls, Cc bs])])[id]? = some (stm inn (at_ + n) o m f 0) := by rw [List.getElem?_append_left (by simpa using hid)]; simp [hid]
  by_cases hlt : n < 15
  ·have hp : 2 ^ n ≤ 2 ^ 14 := Nat.pow_le_pow_right (by omega) (by omega)
   simp -dsimp (disch := first | assumption | omega | (simp only [Ae]; done) | (simp only [Ae]; omega)) only [↓Ag, Ac, Ah, Ai, eq_self, Nat.reduceEqDiff, ↓reduceIte, reduceCtorEq, Nat.reduceLeDiff, ↓Az]
   refine Ap.mono (AnX (n := 1) hw h' (by omega) (by omega) hat) ?_
   intro x H' hx
   by_cases hen : at_ + n + 1 ≤ 8 * inn.length
   ·rw [if_pos hen] at hx
    obtain ⟨rfl, rfl⟩ := hx
    obtain ⟨b, hb⟩ : ∃ b, (AC inn).drop (at_ + n) = b :: (AC inn).drop (at_ + n + 1) := ⟨_, List.drop_eq_getElem_cons (by rw [Bj]; omega)⟩
    obtain ⟨bv, hbv⟩ : ∃ bv : Nat, (if b then 1 else 0) = bv := ⟨_, rfl⟩
    have hb1 : bv ≤ 1 := by rw [← hbv]; split <;> omega
    have hsym : Ajm ls bs (15 - n) n v ((AC inn).drop (at_ + n)) = match Ae0 ls bs (n + 1) (v * 2 + bv) with
     | some i => some (i, n + 1)
     | none => Ajm ls bs (15 - (n + 1)) (n + 1) (v * 2 + bv) ((AC inn).drop (at_ + n + 1)) := by
     rw [hb, show 15 - n = (15 - (n + 1)) + 1 by omega, Ajm, hbv]
    have hval : C9 (((AC inn).drop (at_ + n)).take 1) = bv := by
     rw [hb, List.take_succ_cons, List.take_zero, C9, C9, hbv]; omega
    rw [hval, List.set_append_left _ _ (by simpa using hid), List.set_set]
    have h2 : (H.set id (stm inn (at_ + n + 1) o m f 0) ++ [.obj 0 (.agg [Cc ls, Cc bs])])[id]? = some (stm inn (at_ + n + 1) o m f 0) := by rw [List.getElem?_append_left (by simpa using hid)]; simp [hid]
    have hLL : (H.set id (stm inn (at_ + n + 1) o m f 0) ++ [.obj 0 (.agg [Cc ls, Cc bs])])[H.length]? = some (.obj 0 (.agg [Cc ls, Cc bs])) := by rw [List.getElem?_append_right (by simp)]; simp
    simp -dsimp (disch := first | assumption | omega | (simp only [Ae]; done) | (simp only [Ae]; omega)) only [↓Ag, Ac, Ah, Ai, eq_self, Nat.reduceEqDiff, ↓reduceIte, Nat.reduceAdd, reduceCtorEq, ↓Az, h2, hw]
    refine ACH (L := H.length) (n := n + 1) (v := v * 2 + bv) hlen hl3 hLL (by omega) (by omega) (fun i hfi => ?_) fun y hfn => ?_
    ·simp -dsimp (disch := first | assumption | omega | (simp only [Ae]; done) | (simp only [Ae]; omega)) only [↓Ag, Ac, Ai, eq_self, ↓reduceIte, ↓Az]
     rw [hfi] at hsym
     rw [hs, hsym]
     exact ⟨rfl, fun k hk => by rw [List.getElem?_append_left (by simpa using hk)]; rfl⟩
    ·simp -dsimp (disch := first | assumption | omega | (simp only [Ae]; done) | (simp only [Ae]; omega)) only [↓Ag, Ac, Ah, Ai, eq_self, Nat.reduceEqDiff, ↓reduceIte, reduceCtorEq, ↓Az]
     rw [hfn] at hsym
     refine Am (15 - (n + 1)) (by omega) (by simp) ⟨n + 1, v * 2 + bv, rfl, by omega, by rw [Nat.pow_succ]; omega, by omega, by rw [hs, hsym]; rfl, rfl, rfl⟩
   ·rw [if_neg hen] at hx
    obtain ⟨rfl, rfl⟩ := hx
    rw [if_pos rfl, List.set_append_left _ _ (by simpa using hid), List.set_set]
    have h2 : (H.set id (stm inn (8 * inn.length) o m f 10) ++ [.obj 0 (.agg [Cc ls, Cc bs])])[id]? = some (stm inn (8 * inn.length) o m f 10) := by rw [List.getElem?_append_left (by simpa using hid)]; simp [hid]
    have hnil : (AC inn).drop (at_ + n) = [] := List.drop_eq_nil_of_le (by rw [Bj]; omega)
    rw [hs, hnil, show 15 - n = (15 - (n + 1)) + 1 by omega, Ajm]
    simp -dsimp (disch := first | assumption | omega | (simp only [Ae]; done) | (simp only [Ae]; omega)) only [↓Ag, Ac, Ah, Ai, eq_self, Nat.reduceEqDiff, ↓reduceIte, Nat.reduceAdd, reduceCtorEq, ↓Az, h2, hw]
    exact ⟨8 * inn.length, Nat.le_refl _, fun k hk => by rw [List.getElem?_append_left (by simpa using hk)]⟩
  ·have hn15 : n = 15 := by omega
   subst hn15
   simp -dsimp (disch := first | assumption | omega | (simp only [Ae]; done) | (simp only [Ae]; omega)) only [↓Ag, Ac, Ah, Ai, eq_self, Nat.reduceEqDiff, ↓reduceIte, Nat.reduceAdd, reduceCtorEq, Nat.reduceLeDiff, ↓Az]
   refine Ap.mono (Aeh (e := 10) hw h') ?_
   intro x H' hx
   rw [if_pos rfl] at hx
   subst hx
   rw [List.set_append_left _ _ (by simpa using hid), List.set_set]
   rw [Nat.sub_self] at hs
   rw [hs, Ajm]
   simp -dsimp (disch := first | assumption | omega | (simp only [Ae]; done) | (simp only [Ae]; omega)) only [↓Ag, Ac, Ah, Ai, eq_self, ↓reduceIte, ↓Az]
   exact ⟨at_ + 15, hat, fun k hk => by rw [List.getElem?_append_left (by simpa using hk)]⟩
end Go.Proofs.YtfgljddikcghhaaDoor


namespace Go.Proofs.YtfgljddikcghhaaDoor
open Go.RowKit
variable [AO]
set_option linter.unusedSectionVars false
set_option linter.unusedVariables false
set_option linter.unusedSimpArgs false

/-- All is as it was but the object id and the row J. -/
def Frm (id : Nat) (J : Option Nat) (H H' : List Ob) : Prop := H.length ≤ H'.length ∧ ∀ i, i < H.length → i ≠ id → J ≠ some i → H'[i]? = H[i]?
/-- The row is the same, or a new one. -/
def Jn (J J' : Option Nat) (H : List Ob) : Prop := J' = J ∨ ∀ j, J' = some j → H.length ≤ j
theorem Frm.refl {id : Nat} {J : Option Nat} {H : List Ob} : Frm id J H H := ⟨Nat.le_refl _, fun _ _ _ _ => rfl⟩
theorem Jn.refl {J : Option Nat} {H : List Ob} : Jn J J H := .inl rfl
theorem Frm.trans {id : Nat} {J J' : Option Nat} {H H' H'' : List Ob} (h : Frm id J H H') (hj : Jn J J' H) (h2 : Frm id J' H' H'') : Frm id J H H'' :=
 ⟨Nat.le_trans h.1 h2.1, fun i hi h3 h4 => by
  rw [h2.2 i (Nat.lt_of_lt_of_le hi h.1) h3 ?_, h.2 i hi h3 h4]
  rcases hj with e | e
  ·rw [e]; exact h4
  ·intro e2; have := e i e2; omega⟩
theorem Jn.trans {id : Nat} {J J' J'' : Option Nat} {H H' : List Ob} (h : Frm id J H H') (hj : Jn J J' H) (h2 : Jn J' J'' H') : Jn J J'' H := by
 rcases h2 with e | e
 ·rw [e]; exact hj
 ·exact .inr fun j hj' => Nat.le_trans h.1 (e j hj')
theorem Frm.set {id : Nat} {J : Option Nat} {H : List Ob} {o : Ob} : Frm id J H (H.set id o) := ⟨by simp, fun i hi h1 _ => by rw [List.getElem?_set_ne (Ne.symm h1)]⟩
theorem Frm.of_lt {id : Nat} {J : Option Nat} {H H' : List Ob} {o : Ob} (h : ∀ k, k < H.length → H'[k]? = (H.set id o)[k]?) : Frm id J H H' := by
 refine ⟨?_, fun i hi h1 _ => by rw [h i hi, List.getElem?_set_ne (Ne.symm h1)]⟩
 rcases Nat.lt_or_ge H'.length H.length with hl | hl
 ·have := h H'.length hl
  rw [List.getElem?_eq_none (Nat.le_refl _), List.getElem?_eq_getElem (by simpa using hl)] at this
  cases this
 ·exact hl
theorem AkX.width1 {H : List Ob} {o : TV} {l : List UInt8} {J : Option Nat} (h : AkX H o l J) : AU o = 1 := by
 cases J with
 | none => obtain ⟨rfl, _⟩ := h; rfl
 | some j => obtain ⟨v, rfl, _⟩ := h; rfl
theorem AkX.keep {H H' : List Ob} {o : TV} {l : List UInt8} {J J2 : Option Nat} {id : Nat} (h : AkX H o l J) (hf : Frm id J2 H H') (hJ : J ≠ some id) (hJ2 : J2 = none ∨ J2 ≠ J) : AkX H' o l J := by
 cases J with
 | none => exact h
 | some j =>
  obtain ⟨v, h1, h2⟩ := h
  refine ⟨v, h1, ?_⟩
  rw [hf.2 j (List.getElem?_eq_some_iff.1 h2).1 (fun e => hJ (by rw [e])) ?_]
  ·exact h2
  ·rcases hJ2 with e | e
   ·rw [e]; simp
   ·exact e
theorem AkX.set {H : List Ob} {x : TV} {l : List UInt8} {J : Option Nat} {id : Nat} {o : Ob} (h : AkX H x l J) (hJ : J ≠ some id) : AkX (H.set id o) x l J := h.keep (J2 := none) Frm.set hJ (.inl rfl)
/-- The stream, as it goes well. -/
structure ET (H : List Ob) (id : Nat) (inn : List UInt8) (at_ : Nat) (o : TV) (l : List UInt8) (most win : Int) (J : Option Nat) : Prop where
 ob : H[id]? = some (stm inn at_ o most win 0)
 row : AkX H o l J
 ne : J ≠ some id
 at_ : at_ ≤ 8 * inn.length
 len : l.length ≤ 1000000
/-- The stream, behind an error. -/
structure WF (H : List Ob) (id : Nat) (inn : List UInt8) (most win : Int) (err : Nat) : Prop where
 ne : err ≠ 0
 ob : ∃ at_ o, at_ ≤ 8 * inn.length ∧ AU o = 1 ∧ H[id]? = some (stm inn at_ o most win err)
theorem ET.lt {H : List Ob} {id : Nat} {inn : List UInt8} {at_ : Nat} {o : TV} {l : List UInt8} {most win : Int} {J : Option Nat} (h : ET H id inn at_ o l most win J) : id < H.length := (List.getElem?_eq_some_iff.1 h.ob).1
theorem ET.moved {H H' : List Ob} {id : Nat} {inn : List UInt8} {at_ at' : Nat} {o : TV} {l : List UInt8} {most win : Int} {J : Option Nat} (h : ET H id inn at_ o l most win J) (h1 : H'[id]? = some (stm inn at' o most win 0)) (h2 : at' ≤ 8 * inn.length) (hf : Frm id none H H') : ET H' id inn at' o l most win J :=
 ⟨h1, h.row.keep hf h.ne (.inl rfl), h.ne, h2, h.len⟩
theorem Frm.weak {id : Nat} {J : Option Nat} {H H' : List Ob} (h : Frm id none H H') : Frm id J H H' := ⟨h.1, fun i h1 h2 _ => h.2 i h1 h2 (by simp)⟩

/-- The same bytes again. -/
theorem AC9 {id L L2 at_ n far : Nat} {inn l : List UInt8} {o : TV} {most win : Int} {J : Option Nat} {H : List Ob} {Q : VEx → Env → List Ob → Prop} (hst : ET H id inn at_ o l most win J) (hm : -9223372036854775808 ≤ most ∧ most ≤ 1000000) (hn : n ≤ 3000) (hf0 : 1 ≤ far) (hf : far ≤ l.length) (hi : inn.length ≤ 1000000)
  (hok : ∀ l' J' o' H' y, Om most far n l = some l' → ET H' id inn at_ o' l' most win J' → Jn J J' H → Frm id J H H' → Q .nor [(0, .op id 0 []), (4, .op L 0 []), (5, .op L2 0 []), (9, i64 (n : Int)), (11, i64 (far : Int)), (12, i64 (n : Int)), (100, y)] H')
  (herr : ∀ H' y, Om most far n l = none → WF H' id inn most win 11 → Frm id J H H' → Q .nor [(0, .op id 0 []), (4, .op L 0 []), (5, .op L2 0 []), (9, i64 (n : Int)), (11, i64 (far : Int)), (12, i64 (n : Int)), (100, y)] H') :
  vwp Tryd.prog (.loop [0, 4, 5, 9, 11, 12] Dy) (Blk 2 Q) [(0, .op id 0 []), (4, .op L 0 []), (5, .op L2 0 []), (9, i64 (n : Int)), (11, i64 (far : Int)), (12, i64 ((0 : Nat) : Int))] H := by
 refine Bi (fun q e H' => ∃ k : Nat, q = n - k ∧ k ≤ n ∧ e = [(0, .op id 0 []), (4, .op L 0 []), (5, .op L2 0 []), (9, i64 (n : Int)), (11, i64 (far : Int)), (12, i64 (k : Int))] ∧ Frm id J H H' ∧
  ((∃ l' J' o', Om most far n l = Om most far (n - k) l' ∧ far ≤ l'.length ∧ ET H' id inn at_ o' l' most win J' ∧ Jn J J' H) ∨ (Om most far n l = none ∧ WF H' id inn most win 11))) n ?_ ?_
 ·exact ⟨0, rfl, by omega, rfl, Frm.refl, .inl ⟨l, J, o, rfl, hf, hst, Jn.refl⟩⟩
 ·rintro q e H' ⟨k, rfl, hk, rfl, hfr, hc⟩
  by_cases hlt : k < n
  ·rcases hc with ⟨l', J', o', c1, c2, hs, hj⟩ | ⟨c1, hb⟩
   ·have ho := hs.ob
    obtain ⟨b, hb⟩ : ∃ b, l'[l'.length - far]? = some b := ⟨_, List.getElem?_eq_getElem (by omega)⟩
    have hstep : Om most far (n - k) l' = if most ≤ (l'.length : Int) then none else Om most far (n - (k + 1)) (l' ++ [b]) := by
     rw [show n - k = (n - (k + 1)) + 1 by omega, Om, hb]; rfl
    have hlen := hs.len
    have tail : ∀ H2 : List Ob, (if most ≤ (l'.length : Int) then H2 = H'.set id (stm inn at_ o' most win 11) else ∃ o2 j, H2[id]? = some (stm inn at_ o2 most win 0) ∧ AkX H2 o2 (l' ++ [b]) (some j) ∧ j ≠ id ∧ (J' = some j ∨ H'.length ≤ j) ∧ (∀ i, i < H'.length → i ≠ id → J' ≠ some i → H2[i]? = H'[i]?) ∧ H'.length ≤ H2.length) →
     Frm id J H H2 ∧ ((∃ l' J' o', Om most far n l = Om most far (n - (k + 1)) l' ∧ far ≤ l'.length ∧ ET H2 id inn at_ o' l' most win J' ∧ Jn J J' H) ∨ (Om most far n l = none ∧ WF H2 id inn most win 11)) := by
     intro H2 h2
     by_cases hmo : most ≤ (l'.length : Int)
     ·rw [if_pos hmo] at h2 hstep
      subst h2
      exact ⟨hfr.trans hj Frm.set, .inr ⟨by rw [c1, hstep], by simp, at_, o', hs.at_, hs.row.width1, by simp [hs.lt]⟩⟩
     ·rw [if_neg hmo] at h2 hstep
      obtain ⟨o2, j, g1, g2, g3, g4, g5, g6⟩ := h2
      have hf2 : Frm id J' H' H2 := ⟨g6, g5⟩
      refine ⟨hfr.trans hj hf2, .inl ⟨l' ++ [b], some j, o2, by rw [c1, hstep], by simp; omega, ⟨g1, g2, by simpa using g3, hs.at_, by simp; omega⟩, Jn.trans hfr hj ?_⟩⟩
      rcases g4 with e | e
      ·exact .inl e.symm
      ·exact .inr fun j2 h2 => by cases h2; exact e
    have hrow := hs.row
    cases J' with
    | none =>
     obtain ⟨rfl, rfl⟩ := hrow
     simp at c2; omega
    | some j =>
     obtain ⟨v, rfl, hjo⟩ := hrow
     simp -dsimp (disch := first | assumption | omega | (simp only [Ae]; done) | (simp only [Ae]; omega)) only [↓Ag, Ac, Ah, Ai, eq_self, Nat.reduceEqDiff, ↓reduceIte, Nat.reduceAdd, reduceCtorEq, ↓Aj, ho, hjo, hb]
     refine Ap.mono (Ayl ho hs.row hs.ne (by omega) (by omega)) ?_
     intro x H2 hx
     simp only [ne_eq, not_true_eq_false, if_false] at hx
     obtain ⟨t1, t2⟩ := tail H2 hx
     simp -dsimp (disch := first | assumption | omega | (simp only [Ae]; done) | (simp only [Ae]; omega)) only [↓Ag, Ac, Ah, Ai, eq_self, Nat.reduceEqDiff, ↓reduceIte, reduceCtorEq]
     exact Am (n - (k + 1)) (by omega) t1.1 ⟨k + 1, rfl, by omega, rfl, t1, t2⟩
   ·obtain ⟨b1, a2, o2, b2, b3, b4⟩ := hb
    simp -dsimp (disch := first | assumption | omega | (simp only [Ae]; done) | (simp only [Ae]; omega)) only [↓Ag, Ac, Ah, Ai, eq_self, Nat.reduceEqDiff, ↓reduceIte, Nat.reduceAdd, reduceCtorEq, ↓Aj, b4]
    exact Am (n - (k + 1)) (by omega) hfr.1 ⟨k + 1, rfl, by omega, rfl, hfr, .inr ⟨c1, b1, a2, o2, b2, b3, b4⟩⟩
  ·have hkn : k = n := by omega
   subst hkn
   rcases hc with ⟨l', J', o', c1, c2, hs, hj⟩ | ⟨c1, hb⟩
   ·rw [Nat.sub_self, Om] at c1
    simp -dsimp (disch := first | assumption | omega | (simp only [Ae]; done) | (simp only [Ae]; omega)) only [↓Ag, Ac, Ah, Ai, eq_self, Nat.reduceEqDiff, ↓reduceIte, reduceCtorEq, ↓Aj]
    exact hok l' J' o' H' _ c1 hs hj hfr
   ·simp -dsimp (disch := first | assumption | omega | (simp only [Ae]; done) | (simp only [Ae]; omega)) only [↓Ag, Ac, Ah, Ai, eq_self, Nat.reduceEqDiff, ↓reduceIte, reduceCtorEq, ↓Aj]
    exact herr H' _ c1 hb hfr
end Go.Proofs.YtfgljddikcghhaaDoor


namespace Go.Proofs.YtfgljddikcghhaaDoor
variable [AO]
set_option linter.unusedSectionVars false
set_option linter.unusedVariables false
set_option linter.defProp false
set_option maxRecDepth 100000

def FX : Af := .seq (.opsZ [⟨some 18, .s (.bslice 1 2 (.val (.int .u8 ((0 : Nat) : Int))) [⟨0, .c (.int .u8 ((120 : Nat) : Int))⟩, ⟨1, .c (.int .u8 ((156 : Nat) : Int))⟩]), none⟩,
  mv_ 19 3,
  mv_ 20 5,
  po_ 21 (.bin 36 .shr (.t 20) (.c (.int .u64 ((24 : Nat) : Int)))),
  po_ 22 (.conv .u8 (.t 21)),
  mv_ 23 5,
  po_ 24 (.bin 36 .shr (.t 23) (.c (.int .u64 ((16 : Nat) : Int)))),
  po_ 25 (.conv .u8 (.t 24)),
  mv_ 26 5,
  po_ 27 (.bin 36 .shr (.t 26) (.c (.int .u64 ((8 : Nat) : Int)))),
  po_ 28 (.conv .u8 (.t 27)),
  mv_ 29 5,
  po_ 30 (.conv .u8 (.t 29)),
  ⟨some 31, .s (.bslice 1 4 (.val (.int .u8 ((0 : Nat) : Int))) [⟨0, .t 22⟩, ⟨1, .t 25⟩, ⟨2, .t 28⟩, ⟨3, .t 30⟩]), none⟩] [18, 31] [⟨some 32, .s (.bslice 1 3 (.val (.slice none 0 0)) [⟨0, .t 18⟩, ⟨1, .t 19⟩, ⟨2, .t 31⟩]), none⟩,
  so_ 33 (.call 23 [.t 32]),
  mv_ 2 33] [2])
 (.ret)
def Ou : Af := .seq (.ops [mv_ 16 0,
  so_ 17 (.call 17 [.t 16]),
  mv_ 5 17] [3, 5])
 FX
def O5 : Af := .seq (.seq (.ops [mv_ 8 0,
  so_ 9 (.call 22 [.t 8]),
  mv_ 4 9] [0, 3, 4])
 (.seq (.ops [mv_ 10 4,
  po_ 11 (.lenV (.t 10)),
  mv_ 12 3,
  po_ 13 (.lenV (.t 12)),
  po_ 14 (.bin 3 .lss (.t 11) (.t 13))] [0, 3, 4, 14])
 (.cond (.t 14)
 (.ops [mv_ 15 4,
   mv_ 3 15] [0, 3])
 (.skip))))
 Ou
def Ox : Af := .seq (.ops [mv_ 6 0,
  so_ 7 (.call 21 [.t 6]),
  mv_ 3 7] [0, 3])
 O5
def VK : Af := .seq (.ops [po_ 2 (.mov (.c (.slice none 0 0)))] [0])
 Ox
def LC : List VR := [.tmp 2]
theorem Afr : Tryd.f12.body.bind (trC Tryd.prog Tryd.f12.ntmps) = some (er VK) := by kernel_rfl
theorem AfW : trR Tryd.prog Tryd.f12.results.toList = some LC := by kernel_rfl
def YT := Aa FX.eq_1
def Eg := Aa Ou.eq_1
def KJ := Aa O5.eq_1
def Zd := Aa Ox.eq_1
def AdI := Aa VK.eq_1
theorem AdY {K : TV → Prop} {e : Env} {H : List Ob} : res LC e H K = res [.tmp 2] e H K := Ad rfl
def Ls := (And.intro (And.intro (And.intro @YT @Eg) (And.intro @KJ @Zd)) (And.intro @AdI @AdY))
def Ae4 := EK 34 Tryd.func12 Afr AfW rfl

def TI : Af := .seq (.draw 9 [mv_ 37 7,
  mv_ 38 5,
  mv_ 39 0,
  mv_ 40 8,
  po_ 41 (.idxA 1 (.t 39) (.t 40)),
  po_ 42 (.load false 1 (.t 41)),
  po_ 43 (.idxA 1 (.t 38) (.t 42)),
  po_ 44 (.load false 1 (.t 43)),
  mv_ 45 3,
  mv_ 46 0,
  mv_ 47 8,
  po_ 48 (.idxA 1 (.t 46) (.t 47)),
  po_ 49 (.load false 1 (.t 48)),
  po_ 50 (.idxA 1 (.t 45) (.t 49)),
  po_ 51 (.load false 1 (.t 50)),
  so_ 52 (.call 41 [.t 37, .t 44, .t 51])] [0, 3, 4, 5, 6, 7, 8, 28, 29, 30])
 (.seq (.ops [mv_ 53 8,
  po_ 54 (.bin 3 .add (.t 53) (ci_ 1)),
  mv_ 8 54] [0, 3, 4, 5, 6, 7, 8, 28, 29, 30])
 (.exit 1))
def Un : Af := .cond (.t 36)
 TI
 (.skip)
def Ur : Af := .seq (.ops [mv_ 96 7,
  po_ 97 (.fieldA 1 1 (.t 10)),
  po_ 98 (.load false 1 (.t 97)),
  po_ 99 (.fieldA 0 0 (.t 12)),
  po_ 100 (.load false 1 (.t 99)),
  po_ 101 (.bin 3 .sub (.t 98) (.t 100)),
  po_ 102 (.fieldA 1 1 (.t 12)),
  po_ 103 (.load false 1 (.t 102)),
  so_ 104 (.call 41 [.t 96, .t 101, .t 103])] [0, 3, 4, 5, 6, 7, 8, 10, 28, 29, 30])
 (.ops [mv_ 105 8,
  po_ 106 (.fieldA 0 0 (.t 10)),
  po_ 107 (.load false 1 (.t 106)),
  po_ 108 (.bin 3 .add (.t 105) (.t 107)),
  mv_ 8 108] [0, 3, 4, 5, 6, 7, 8, 28, 29, 30])
def TL : Af := .seq (.draw 5 [mv_ 86 7,
  mv_ 87 6,
  mv_ 88 11,
  po_ 89 (.idxA 1 (.t 87) (.t 88)),
  po_ 90 (.load false 1 (.t 89)),
  mv_ 91 4,
  mv_ 92 11,
  po_ 93 (.idxA 1 (.t 91) (.t 92)),
  po_ 94 (.load false 1 (.t 93)),
  so_ 95 (.call 41 [.t 86, .t 90, .t 94])] [0, 3, 4, 5, 6, 7, 8, 10, 12, 28, 29, 30])
 Ur
def Ux : Af := .seq (.ops [po_ 81 (.fieldA 1 1 (.t 10)),
  po_ 82 (.load false 1 (.t 81)),
  so_ 83 (.call 43 [.t 82, .c (.int .i64 ((0 : Nat) : Int)), .c (.int .i64 ((29 : Nat) : Int)), .c (.func (.func 45) #[] #[])]),
  mv_ 80 83,
  po_ 84 (.ext 0 (.t 80)),
  po_ 85 (.ext 1 (.t 80)),
  mv_ 11 84,
  ⟨none, .s (.store 2 (.t 12) (.t 85)), none⟩] [0, 3, 4, 5, 6, 7, 8, 10, 11, 12, 28, 29, 30])
 TL
def Ug : Af := .seq (.ops [mv_ 71 7,
  po_ 72 (.fieldA 0 0 (.t 10)),
  po_ 73 (.load false 1 (.t 72)),
  po_ 74 (.fieldA 0 0 (.t 12)),
  po_ 75 (.load false 1 (.t 74)),
  po_ 76 (.bin 3 .sub (.t 73) (.t 75)),
  po_ 77 (.fieldA 1 1 (.t 12)),
  po_ 78 (.load false 1 (.t 77)),
  so_ 79 (.call 41 [.t 71, .t 76, .t 78])] [0, 3, 4, 5, 6, 7, 8, 10, 12, 28, 29, 30])
 Ux
def TP : Af := .seq (.draw 5 [mv_ 61 7,
  mv_ 62 5,
  mv_ 63 11,
  po_ 64 (.idxA 1 (.t 62) (.t 63)),
  po_ 65 (.load false 1 (.t 64)),
  mv_ 66 3,
  mv_ 67 11,
  po_ 68 (.idxA 1 (.t 66) (.t 67)),
  po_ 69 (.load false 1 (.t 68)),
  so_ 70 (.call 41 [.t 61, .t 65, .t 69])] [0, 3, 4, 5, 6, 7, 8, 10, 12, 28, 29, 30])
 Ug
def Uj : Af := .seq (.ops [po_ 56 (.fieldA 0 0 (.t 10)),
  po_ 57 (.load false 1 (.t 56)),
  so_ 58 (.call 43 [.t 57, .c (.int .i64 ((257 : Nat) : Int)), .c (.int .i64 ((285 : Nat) : Int)), .c (.func (.func 44) #[] #[])]),
  mv_ 55 58,
  po_ 59 (.ext 0 (.t 55)),
  po_ 60 (.ext 1 (.t 55)),
  so_ 12 (.alloc (.agg [.val (.int .i64 ((0 : Nat) : Int)), .val (.int .i64 ((0 : Nat) : Int))])),
  mv_ 11 59,
  ⟨none, .s (.store 2 (.t 12) (.t 60)), none⟩] [0, 3, 4, 5, 6, 7, 8, 10, 11, 12, 28, 29, 30])
 TP
def UG : Af := .seq (.seq (.ops [po_ 34 (.fieldA 0 0 (.t 10)),
  po_ 35 (.load false 1 (.t 34)),
  po_ 36 (.bin 3 .eql (.t 35) (ci_ 0))] [0, 3, 4, 5, 6, 7, 8, 10, 28, 29, 30, 36])
 Un)
 Uj
def RU : Af := .seq (.block 1 (.seq (.ops [po_ 32 (.idxA 2 (.t 28) (.t 30)),
  po_ 33 (.load true 2 (.t 32)),
  so_ 10 (.alloc (.agg [.val (.int .i64 ((0 : Nat) : Int)), .val (.int .i64 ((0 : Nat) : Int))])),
  ⟨none, .s (.store 2 (.t 10) (.t 33)), none⟩] [0, 3, 4, 5, 6, 7, 8, 10, 28, 29, 30])
 UG))
 (.ops [po_ 109 (.bin 3 .add (.t 30) (ci_ 1)),
  mv_ 30 109] [0, 3, 4, 5, 6, 7, 8, 28, 29, 30])
def PS : Af := .seq (.cond (.t 31)
 (.skip)
 (.exit 0))
 RU
def Rz : Af := .seq (.ops [po_ 31 (.bin 3 .lss (.t 30) (.t 29))] [0, 3, 4, 5, 6, 7, 8, 28, 29, 30, 31])
 PS
def Sm : Af := .block 0 (.loop [0, 3, 4, 5, 6, 7, 8, 28, 29, 30] Rz)
def RI : Af := .seq (.draw 4 [mv_ 110 7,
  mv_ 111 5,
  po_ 112 (.idxA 1 (.t 111) (ci_ 256)),
  po_ 113 (.load false 1 (.t 112)),
  mv_ 114 3,
  po_ 115 (.idxA 1 (.t 114) (ci_ 256)),
  po_ 116 (.load false 1 (.t 115)),
  so_ 117 (.call 41 [.t 110, .t 113, .t 116])] [7])
 (.seq (.ops [mv_ 118 7,
  so_ 119 (.call 46 [.t 118])] [7])
 (.seq (.ops [mv_ 120 7,
  po_ 121 (.nilc (.t 120)),
  po_ 122 (.fieldA 0 0 (.t 121)),
  po_ 123 (.load false 1 (.t 122)),
  mv_ 2 123] [2])
 (.ret)))
def QM : Af := .seq (.seq (.ops [mv_ 27 0,
  so_ 28 (.call 42 [.t 27]),
  po_ 29 (.lenV (.t 28)),
  po_ 30 (.mov (ci_ 0))] [0, 3, 4, 5, 6, 7, 8, 28, 29, 30])
 Sm)
 RI
def QK : Af := .seq (.ops [po_ 8 (.mov (ci_ 0))] [0, 3, 4, 5, 6, 7, 8])
 QM
def PX : Af := .seq (.ops [mv_ 25 7,
  so_ 26 (.call 41 [.t 25, .c (.int .i64 ((1 : Nat) : Int)), .c (.int .i64 ((2 : Nat) : Int))])] [0, 3, 4, 5, 6, 7])
 QK
def Rq : Af := .seq (.ops [mv_ 23 7,
  so_ 24 (.call 41 [.t 23, .c (.int .i64 ((1 : Nat) : Int)), .c (.int .i64 ((1 : Nat) : Int))])] [0, 3, 4, 5, 6, 7])
 PX
def Q5 : Af := .seq (.ops [po_ 21 (.build [.val (.slice none 0 0), .val (.int .u32 ((0 : Nat) : Int)), .val (.int .i64 ((0 : Nat) : Int))] [1, 1, 1] []),
  so_ 22 (.box (.t 21)),
  mv_ 7 22] [0, 3, 4, 5, 6, 7])
 Rq
def Ql : Af := .seq (.ops [mv_ 17 3,
  so_ 18 (.call 40 [.t 17]),
  mv_ 19 4,
  so_ 20 (.call 40 [.t 19]),
  mv_ 5 18,
  mv_ 6 20] [0, 3, 4, 5, 6])
 Q5
def Rk : Af := .seq (.ops [so_ 14 (.call 26 []),
  mv_ 13 14,
  po_ 15 (.ext 0 (.t 13)),
  po_ 16 (.ext 1 (.t 13)),
  mv_ 3 15,
  mv_ 4 16] [0, 3, 4])
 Ql
def Z4 : Af := .seq (.ops [po_ 2 (.mov (.c (.slice none 0 0)))] [0])
 Rk
def AaD : List VR := [.tmp 2]
theorem AiJ : Tryd.f21.body.bind (trC Tryd.prog Tryd.f21.ntmps) = some (er Z4) := by kernel_rfl
theorem AiX : trR Tryd.prog Tryd.f21.results.toList = some AaD := by kernel_rfl
def Acv := Aa TI.eq_1
def AcZ := Aa Un.eq_1
def Acm := Aa Ur.eq_1
def AcN := Aa TL.eq_1
def AcI := Aa Ux.eq_1
def AcS := Aa Ug.eq_1
def Acs := Aa TP.eq_1
def AcG := Aa Uj.eq_1
def AcB := Aa UG.eq_1
def ZV := Aa RU.eq_1
def Aae := Aa PS.eq_1
def Aa7 := Aa Rz.eq_1
def Aap := Aa Sm.eq_1
def Z8 := Aa RI.eq_1
def Aal := Aa QM.eq_1
def Aac := Aa QK.eq_1
def Aay := Aa PX.eq_1
def Z5 := Aa Rq.eq_1
def Abl := Aa Q5.eq_1
def Aah := Aa Ql.eq_1
def Abi := Aa Rk.eq_1
def AfT := Aa Z4.eq_1
theorem AgH {K : TV → Prop} {e : Env} {H : List Ob} : res AaD e H K = res [.tmp 2] e H K := Ad rfl
def Bh := (And.intro (And.intro (And.intro (And.intro (And.intro @Acv @AcZ) (And.intro @Acm @AcN)) (And.intro (And.intro @AcI @AcS) (And.intro @Acs @AcG))) (And.intro (And.intro (And.intro @AcB @ZV) (And.intro @Aae @Aa7)) (And.intro (And.intro @Aap @Z8) (And.intro @Aal @Aac)))) (And.intro (And.intro (And.intro @Aay @Z5) (And.intro @Abl @Aah)) (And.intro (And.intro @Abi @AfT) @AgH)))
def Ahu := EK 124 Tryd.func21 AiJ AiX rfl

def Qe : Af := .seq (.ops [mv_ 20 3,
  mv_ 21 6,
  mv_ 22 5,
  po_ 23 (.conv .u8 (.t 22)),
  mv_ 24 5,
  po_ 25 (.bin 3 .shr (.t 24) (.c (.int .u64 ((8 : Nat) : Int)))),
  po_ 26 (.conv .u8 (.t 25)),
  mv_ 27 5,
  po_ 28 (.un .xor (.t 27)),
  po_ 29 (.conv .u8 (.t 28)),
  mv_ 30 5,
  po_ 31 (.un .xor (.t 30)),
  po_ 32 (.bin 3 .shr (.t 31) (.c (.int .u64 ((8 : Nat) : Int)))),
  po_ 33 (.conv .u8 (.t 32)),
  ⟨some 34, .s (.bslice 1 5 (.val (.int .u8 ((0 : Nat) : Int))) [⟨0, .t 21⟩, ⟨1, .t 23⟩, ⟨2, .t 26⟩, ⟨3, .t 29⟩, ⟨4, .t 33⟩]), none⟩,
  so_ 35 (.app 1 1 5 (.t 20) (.t 34)),
  mv_ 3 35] [0, 3, 5])
 (.seq (.ops [mv_ 36 3,
  mv_ 37 0,
  mv_ 38 5,
  po_ 39 (.slV 1 (.t 37) none (some (.t 38))),
  so_ 40 (.app 1 1 5 (.t 36) (.t 39)),
  mv_ 3 40] [0, 3, 5])
 (.ops [mv_ 41 0,
  mv_ 42 5,
  po_ 43 (.slV 1 (.t 41) (some (.t 42)) none),
  mv_ 0 43] [0, 3]))
def QO : Af := .seq (.seq (.ops [mv_ 16 5,
  mv_ 17 0,
  po_ 18 (.lenV (.t 17)),
  po_ 19 (.bin 3 .eql (.t 16) (.t 18))] [0, 3, 5, 6, 19])
 (.cond (.t 19)
 (.ops [po_ 6 (.mov (.c (.int .u8 ((1 : Nat) : Int))))] [0, 3, 5, 6])
 (.skip)))
 Qe
def DR : Af := .seq (.ops [po_ 6 (.mov (.c (.int .u8 ((0 : Nat) : Int))))] [0, 3, 5, 6])
 QO
def H9 : Af := .seq (.block 1 (.seq (.ops [mv_ 13 0,
  po_ 14 (.lenV (.t 13)),
  po_ 15 (.min (.t 14) (ci_ 65535)),
  mv_ 5 15] [0, 3, 5])
 DR))
 (.ops [po_ 4 (.mov (.c (.bool false)))] [0, 3, 4])
def RG : Af := .seq (.seq (.ops [mv_ 7 4,
  mv_ 8 7,
  ⟨some 9, .p (.mov (.t 0)), some ⟨8, false⟩⟩,
  ⟨some 10, .p (.lenV (.t 9)), some ⟨8, false⟩⟩,
  ⟨some 11, .p (.bin 3 .gtr (.t 10) (ci_ 0)), some ⟨8, false⟩⟩,
  po_ 12 (.pick (.t 8) (.c (.bool true)) (.t 11))] [0, 3, 12])
 (.cond (.t 12)
 (.skip)
 (.exit 0)))
 H9
def P6 : Af := .block 0 (.own 3 1 (.loop [0, 3, 4] RG))
def DY : Af := .seq (.ops [mv_ 44 3,
  mv_ 2 44] [2])
 (.ret)
def Qn : Af := .seq (.seq (.ops [po_ 4 (.mov (.c (.bool true)))] [0, 3, 4])
 P6)
 DY
def Sl : Af := .seq (.ops [po_ 3 (.mov (.c (.slice none 0 0)))] [0, 3])
 Qn
def YJ : Af := .seq (.ops [po_ 2 (.mov (.c (.slice none 0 0)))] [0])
 Sl
def Hr : List VR := [.tmp 2]
theorem Ag5 : Tryd.f22.body.bind (trC Tryd.prog Tryd.f22.ntmps) = some (er YJ) := by kernel_rfl
theorem Ahv : trR Tryd.prog Tryd.f22.results.toList = some Hr := by kernel_rfl
def AaZ := Aa Qe.eq_1
def AbF := Aa QO.eq_1
def ZU := Aa DR.eq_1
def EW := Aa H9.eq_1
def E8 := Aa RG.eq_1
def Aba := Aa P6.eq_1
def AbD := Aa DY.eq_1
def AaM := Aa Qn.eq_1
def AaV := Aa Sl.eq_1
def Afn := Aa YJ.eq_1
theorem AeA {K : TV → Prop} {e : Env} {H : List Ob} : res Hr e H K = res [.tmp 2] e H K := Ad rfl
def Ht := (And.intro (And.intro (And.intro (And.intro @AaZ @AbF) (And.intro @ZU @EW)) (And.intro (And.intro @E8 @Aba) (And.intro @AbD @AaM))) (And.intro (And.intro @AaV @Afn) @AeA))
def AfV := EK 45 Tryd.func22 Ag5 Ahv rfl

def Ep : Af := .seq (.block 1 (.seq (.ops [po_ 13 (.idxA 1 (.t 9) (.t 11)),
  po_ 14 (.load false 1 (.t 13)),
  mv_ 5 14] [0, 3, 5, 9, 10, 11])
 (.seq (.ops [mv_ 15 3,
  mv_ 16 5,
  po_ 17 (.lenV (.t 16)),
  po_ 18 (.bin 3 .add (.t 15) (.t 17)),
  mv_ 3 18] [0, 3, 9, 10, 11])
 (.seq (.ops [mv_ 19 3,
  po_ 20 (.bin 3 .lss (.t 19) (ci_ 0))] [0, 3, 9, 10, 11, 20])
 (.cond (.t 20)
 (.pops [po_ 21 (.iface 9 (.c (.string (str [108, 101, 110, 32, 111, 117, 116, 32, 111, 102, 32, 114, 97, 110, 103, 101])))),
   ⟨none, .s (.pan (.t 21)), none⟩] [0, 3, 9, 10, 11])
 (.skip))))))
 (.ops [po_ 22 (.bin 3 .add (.t 11) (ci_ 1)),
  mv_ 11 22] [0, 3, 9, 10, 11])
def EI : Af := .seq (.cond (.t 12)
 (.skip)
 (.exit 0))
 Ep
def EG : Af := .seq (.ops [po_ 12 (.bin 3 .lss (.t 11) (.t 10))] [0, 3, 9, 10, 11, 12])
 EI
def Et : Af := .block 0 (.loop [0, 3, 9, 10, 11] EG)
def CO : Af := .seq (.ops [po_ 28 (.bin 3 .lss (.t 27) (.t 26))] [6, 25, 26, 27, 28])
 (.seq (.cond (.t 28)
 (.skip)
 (.exit 2))
 (.seq (.block 3 (.seq (.ops [po_ 29 (.idxA 1 (.t 25) (.t 27)),
  po_ 30 (.load false 1 (.t 29)),
  mv_ 8 30] [6, 8, 25, 26, 27])
 (.ops [mv_ 31 6,
  mv_ 32 8,
  so_ 33 (.app 1 1 5 (.t 31) (.t 32)),
  mv_ 6 33] [6, 25, 26, 27])))
 (.ops [po_ 34 (.bin 3 .add (.t 27) (ci_ 1)),
  mv_ 27 34] [6, 25, 26, 27])))
def CJ : Af := .seq (.ops [mv_ 35 6,
  mv_ 2 35] [2])
 (.ret)
def ED : Af := .seq (.seq (.ops [mv_ 25 0,
  po_ 26 (.lenV (.t 25)),
  po_ 27 (.mov (ci_ 0))] [6, 25, 26, 27])
 (.block 2 (.own 6 1 (.loop [6, 25, 26, 27] CO))))
 CJ
def Es : Af := .seq (.ops [mv_ 23 3,
  so_ 24 (.call 47 [.c (.slice none 0 0), .t 23]),
  mv_ 6 24] [0, 6])
 ED
def Eo : Af := .seq (.seq (.ops [mv_ 9 0,
  po_ 10 (.lenV (.t 9)),
  po_ 11 (.mov (ci_ 0))] [0, 3, 9, 10, 11])
 Et)
 Es
def D9 : Af := .seq (.ops [po_ 3 (.mov (ci_ 0))] [0, 3])
 Eo
def Gh : Af := .seq (.ops [po_ 2 (.mov (.c (.slice none 0 0)))] [0])
 D9
def Dt : List VR := [.tmp 2]
theorem Vz : Tryd.f23.body.bind (trC Tryd.prog Tryd.f23.ntmps) = some (er Gh) := by kernel_rfl
theorem Vs : trR Tryd.prog Tryd.f23.results.toList = some Dt := by kernel_rfl
def LW := Aa Ep.eq_1
def NI := Aa EI.eq_1
def Np := Aa EG.eq_1
def N7 := Aa Et.eq_1
def MR := Aa CO.eq_1
def MJ := Aa CJ.eq_1
def LY := Aa ED.eq_1
def ML := Aa Es.eq_1
def Nc := Aa Eo.eq_1
def LM := Aa D9.eq_1
def Qw := Aa Gh.eq_1
theorem P7 {K : TV → Prop} {e : Env} {H : List Ob} : res Dt e H K = res [.tmp 2] e H K := Ad rfl
def Bf := (And.intro (And.intro (And.intro (And.intro @LW @NI) (And.intro @Np @N7)) (And.intro (And.intro @MR @MJ) (And.intro @LY @ML))) (And.intro (And.intro @Nc @LM) (And.intro @Qw @P7)))
def Tf := EK 36 Tryd.func23 Vz Vs rfl

def FD : Af := .ops [mv_ 17 0,
  mv_ 18 0,
  po_ 19 (.gen .capV [.t 18]),
  po_ 20 (.slV 1 (.t 17) none (some (.t 19))),
  mv_ 21 1,
  so_ 22 (.appZ 1 1 (.val (.int .u8 ((0 : Nat) : Int))) (.t 20) (.t 21)),
  mv_ 23 0,
  po_ 24 (.lenV (.t 23)),
  po_ 25 (.slV 1 (.t 22) none (some (.t 24))),
  mv_ 0 25] [0]
def FH : Af := .seq (.seq (.ops [mv_ 8 1,
  mv_ 9 0,
  po_ 10 (.gen .capV [.t 9]),
  mv_ 11 0,
  po_ 12 (.lenV (.t 11)),
  po_ 13 (.bin 3 .sub (.t 10) (.t 12)),
  po_ 14 (.bin 3 .sub (.t 8) (.t 13)),
  mv_ 1 14] [0, 1])
 (.seq (.ops [mv_ 15 1,
  po_ 16 (.bin 3 .gtr (.t 15) (ci_ 0))] [0, 1, 16])
 (.cond (.t 16)
 FD
 (.skip))))
 (.seq (.ops [mv_ 26 0,
  mv_ 4 26] [4])
 (.ret))
def FI : Af := .seq (.seq (.ops [mv_ 5 1,
  po_ 6 (.bin 3 .lss (.t 5) (ci_ 0))] [0, 1, 6])
 (.cond (.t 6)
 (.pops [po_ 7 (.iface 9 (.c (.string (str [99, 97, 110, 110, 111, 116, 32, 98, 101, 32, 110, 101, 103, 97, 116, 105, 118, 101])))),
   ⟨none, .s (.pan (.t 7)), none⟩] [0, 1])
 (.skip)))
 FH
def JX : Af := .seq (.ops [po_ 4 (.mov (.c (.slice none 0 0)))] [0, 1])
 FI
def Jo : List VR := [.tmp 4]
theorem XZ : Tryd.f47.body.bind (trC Tryd.prog Tryd.f47.ntmps) = some (er JX) := by kernel_rfl
theorem XO : trR Tryd.prog Tryd.f47.results.toList = some Jo := by kernel_rfl
def Px := Aa FD.eq_1
def Po := Aa FH.eq_1
def Pn := Aa FI.eq_1
def U7 := Aa JX.eq_1
theorem U0 {K : TV → Prop} {e : Env} {H : List Ob} : res Jo e H K = res [.tmp 4] e H K := Ad rfl
def Js := (And.intro (And.intro (And.intro @Px @Po) (And.intro @Pn @U7)) @U0)
def WB := EK 27 Tryd.func47 XZ XO rfl

def TW : Af := .draw 8 [mv_ 32 3,
  mv_ 33 6,
  po_ 34 (.idxA 1 (.t 32) (.t 33)),
  po_ 35 (.load false 1 (.t 34)),
  mv_ 36 4,
  mv_ 37 8,
  po_ 38 (.bin 3 .shr (.t 36) (.t 37)),
  po_ 39 (.bin 3 .and (.t 38) (ci_ 1)),
  mv_ 40 5,
  po_ 41 (.bin 3 .sub (.t 40) (ci_ 1)),
  mv_ 42 8,
  po_ 43 (.bin 3 .sub (.t 41) (.t 42)),
  po_ 44 (.bin 3 .shl (.t 39) (.t 43)),
  po_ 45 (.bin 3 .or (.t 35) (.t 44)),
  po_ 46 (.idxA 1 (.t 32) (.t 33)),
  ⟨none, .s (.store 1 (.t 46) (.t 45)), none⟩] [0, 3, 4, 5, 6, 18, 19, 20, 28, 29]
def Ul : Af := .seq (.block 5 (.seq (.ops [mv_ 31 29,
  mv_ 8 31] [0, 3, 4, 5, 6, 8, 18, 19, 20, 28, 29])
 TW))
 (.ops [po_ 47 (.bin 3 .add (.t 29) (ci_ 1)),
  mv_ 29 47] [0, 3, 4, 5, 6, 18, 19, 20, 28, 29])
def TK : Af := .seq (.cond (.t 30)
 (.skip)
 (.exit 4))
 Ul
def UQ : Af := .seq (.ops [po_ 30 (.bin 3 .lss (.t 29) (.t 28))] [0, 3, 4, 5, 6, 18, 19, 20, 28, 29, 30])
 TK
def UA : Af := .block 4 (.loop [0, 3, 4, 5, 6, 18, 19, 20, 28, 29] UQ)
def Uo : Af := .ops [mv_ 48 4,
  po_ 49 (.bin 3 .add (.t 48) (ci_ 1)),
  mv_ 4 49] [0, 3, 4, 5, 18, 19, 20]
def UE : Af := .seq (.seq (.ops [mv_ 28 5,
  po_ 29 (.mov (ci_ 0))] [0, 3, 4, 5, 6, 18, 19, 20, 28, 29])
 UA)
 Uo
def TE : Af := .cond (.t 27)
 UE
 (.skip)
def Ui : Af := .seq (.ops [mv_ 25 7,
  mv_ 26 5,
  po_ 27 (.bin 3 .eql (.t 25) (.t 26))] [0, 3, 4, 5, 6, 18, 19, 20, 27])
 TE
def Q4 : Af := .ops [po_ 50 (.bin 3 .add (.t 20) (ci_ 1)),
  mv_ 20 50] [0, 3, 4, 5, 18, 19, 20]
def QC : Af := .seq (.block 3 (.seq (.ops [mv_ 22 20,
  po_ 23 (.idxA 1 (.t 18) (.t 20)),
  po_ 24 (.load false 1 (.t 23)),
  mv_ 6 22,
  mv_ 7 24] [0, 3, 4, 5, 6, 7, 18, 19, 20])
 Ui))
 Q4
def QE : Af := .seq (.cond (.t 21)
 (.skip)
 (.exit 2))
 QC
def Q7 : Af := .seq (.ops [po_ 21 (.bin 3 .lss (.t 20) (.t 19))] [0, 3, 4, 5, 18, 19, 20, 21])
 QE
def Qr : Af := .block 2 (.loop [0, 3, 4, 5, 18, 19, 20] Q7)
def Ru : Af := .seq (.ops [mv_ 18 0,
  po_ 19 (.lenV (.t 18)),
  po_ 20 (.mov (ci_ 0))] [0, 3, 4, 5, 18, 19, 20])
 Qr
def Rw : Af := .ops [mv_ 14 5,
  po_ 15 (.bin 3 .add (.t 14) (ci_ 1)),
  mv_ 5 15] [0, 3, 4, 5]
def RF : Af := .seq (.block 1 (.seq (.ops [mv_ 16 4,
  po_ 17 (.bin 3 .shl (.t 16) (.c (.int .u64 ((1 : Nat) : Int)))),
  mv_ 4 17] [0, 3, 4, 5])
 Ru))
 Rw
def Qx : Af := .seq (.seq (.ops [mv_ 12 5,
  po_ 13 (.bin 3 .lss (.t 12) (ci_ 16))] [0, 3, 4, 5, 13])
 (.cond (.t 13)
 (.skip)
 (.exit 0)))
 RF
def Rl : Af := .block 0 (.loop [0, 3, 4, 5] Qx)
def Rt : Af := .seq (.ops [mv_ 51 3,
  mv_ 2 51] [2])
 (.ret)
def Qs : Af := .seq (.seq (.ops [po_ 5 (.mov (ci_ 1))] [0, 3, 4, 5])
 Rl)
 Rt
def Si : Af := .seq (.ops [po_ 4 (.mov (ci_ 0))] [0, 3, 4])
 Qs
def RY : Af := .seq (.ops [mv_ 9 0,
  po_ 10 (.lenV (.t 9)),
  so_ 11 (.mks 1 8 (.val (.int .i64 ((0 : Nat) : Int))) (.t 10) (.t 10)),
  mv_ 3 11] [0, 3])
 Si
def AaO : Af := .seq (.ops [po_ 2 (.mov (.c (.slice none 0 0)))] [0])
 RY
def Abr : List VR := [.tmp 2]
theorem AiD : Tryd.f40.body.bind (trC Tryd.prog Tryd.f40.ntmps) = some (er AaO) := by kernel_rfl
theorem AiE : trR Tryd.prog Tryd.f40.results.toList = some Abr := by kernel_rfl
def Ab4 := Aa TW.eq_1
def AbX := Aa Ul.eq_1
def AcQ := Aa TK.eq_1
def AbU := Aa UQ.eq_1
def Ace := Aa UA.eq_1
def Ab9 := Aa Uo.eq_1
def AbW := Aa UE.eq_1
def AcO := Aa TE.eq_1
def Acd := Aa Ui.eq_1
def Aby := Aa Q4.eq_1
def ZE := Aa QC.eq_1
def Aax := Aa QE.eq_1
def Aaq := Aa Q7.eq_1
def AaY := Aa Qr.eq_1
def AaI := Aa Ru.eq_1
def Aas := Aa Rw.eq_1
def ZC := Aa RF.eq_1
def Aar := Aa Qx.eq_1
def Aa3 := Aa Rl.eq_1
def ZK := Aa Rt.eq_1
def AaF := Aa Qs.eq_1
def Abf := Aa Si.eq_1
def ZH := Aa RY.eq_1
def AgD := Aa AaO.eq_1
theorem AgC {K : TV → Prop} {e : Env} {H : List Ob} : res Abr e H K = res [.tmp 2] e H K := Ad rfl
def Cj := (And.intro (And.intro (And.intro (And.intro (And.intro @Ab4 @AbX) (And.intro @AcQ @AbU)) (And.intro (And.intro @Ace @Ab9) (And.intro @AbW @AcO))) (And.intro (And.intro (And.intro @Acd @Aby) (And.intro @ZE @Aax)) (And.intro (And.intro @Aaq @AaY) (And.intro @AaI @Aas)))) (And.intro (And.intro (And.intro (And.intro @ZC @Aar) (And.intro @Aa3 @ZK)) (And.intro (And.intro @AaF @Abf) (And.intro @ZH @AgD))) @AgC))
def AhK := EK 52 Tryd.func40 AiD AiE rfl

def Iw : Af := .seq (.ops [mv_ 47 0,
  po_ 48 (.nilc (.t 47)),
  po_ 49 (.fieldA 1 1 (.t 48)),
  po_ 50 (.load false 1 (.t 49)),
  po_ 51 (.bin 36 .shr (.t 50) (.c (.int .u64 ((8 : Nat) : Int)))),
  po_ 52 (.nilc (.t 47)),
  po_ 53 (.fieldA 1 1 (.t 52)),
  ⟨none, .s (.store 1 (.t 53) (.t 51)), none⟩] [0])
 (.ops [mv_ 54 0,
  po_ 55 (.nilc (.t 54)),
  po_ 56 (.fieldA 2 2 (.t 55)),
  po_ 57 (.load false 1 (.t 56)),
  po_ 58 (.bin 3 .sub (.t 57) (ci_ 8)),
  po_ 59 (.nilc (.t 54)),
  po_ 60 (.fieldA 2 2 (.t 59)),
  ⟨none, .s (.store 1 (.t 60) (.t 58)), none⟩] [0])
def I5 : Af := .block 1 (.seq (.draw 5 [mv_ 33 0,
  mv_ 34 0,
  po_ 35 (.nilc (.t 34)),
  po_ 36 (.fieldA 0 0 (.t 35)),
  po_ 37 (.load false 1 (.t 36)),
  mv_ 38 0,
  po_ 39 (.nilc (.t 38)),
  po_ 40 (.fieldA 1 1 (.t 39)),
  po_ 41 (.load false 1 (.t 40)),
  po_ 42 (.conv .u8 (.t 41)),
  ⟨some 43, .s (.bslice 1 1 (.val (.int .u8 ((0 : Nat) : Int))) [⟨0, .t 42⟩]), none⟩,
  so_ 44 (.app 1 1 5 (.t 37) (.t 43)),
  po_ 45 (.nilc (.t 33)),
  po_ 46 (.fieldA 0 0 (.t 45)),
  ⟨none, .s (.store 1 (.t 46) (.t 44)), none⟩] [0])
 Iw)
def DD : Af := .seq (.seq (.ops [mv_ 28 0,
  po_ 29 (.nilc (.t 28)),
  po_ 30 (.fieldA 2 2 (.t 29)),
  po_ 31 (.load false 1 (.t 30)),
  po_ 32 (.bin 3 .geq (.t 31) (ci_ 8))] [0, 32])
 (.cond (.t 32)
 (.skip)
 (.exit 0)))
 I5
def IP : Af := .block 0 (.ownB 0 [(0, 0)] 1 (.loop [0] DD))
def IW : Af := .seq (.ops [mv_ 20 0,
  po_ 21 (.nilc (.t 20)),
  po_ 22 (.fieldA 2 2 (.t 21)),
  po_ 23 (.load false 1 (.t 22)),
  mv_ 24 2,
  po_ 25 (.bin 3 .add (.t 23) (.t 24)),
  po_ 26 (.nilc (.t 20)),
  po_ 27 (.fieldA 2 2 (.t 26)),
  ⟨none, .s (.store 1 (.t 27) (.t 25)), none⟩] [0])
 IP
def NQ : Af := .seq (.draw 6 [mv_ 6 0,
  po_ 7 (.nilc (.t 6)),
  po_ 8 (.fieldA 1 1 (.t 7)),
  po_ 9 (.load false 1 (.t 8)),
  mv_ 10 1,
  po_ 11 (.conv .u32 (.t 10)),
  mv_ 12 0,
  po_ 13 (.nilc (.t 12)),
  po_ 14 (.fieldA 2 2 (.t 13)),
  po_ 15 (.load false 1 (.t 14)),
  po_ 16 (.bin 36 .shl (.t 11) (.t 15)),
  po_ 17 (.bin 36 .or (.t 9) (.t 16)),
  po_ 18 (.nilc (.t 6)),
  po_ 19 (.fieldA 1 1 (.t 18)),
  ⟨none, .s (.store 1 (.t 19) (.t 17)), none⟩] [0, 2])
 IW
def NT : List VR := []
theorem Aaf : Tryd.f41.body.bind (trC Tryd.prog Tryd.f41.ntmps) = some (er NQ) := by kernel_rfl
theorem Zy : trR Tryd.prog Tryd.f41.results.toList = some NT := by kernel_rfl
def SL := Aa Iw.eq_1
def SN := Aa I5.eq_1
def SC := Aa DD.eq_1
def SH := Aa IP.eq_1
def SV := Aa IW.eq_1
def Yb := Aa NQ.eq_1
theorem XN {K : TV → Prop} {e : Env} {H : List Ob} : res NT e H K = res [] e H K := Ad rfl
def BG := (And.intro (And.intro (And.intro @SL @SN) (And.intro @SC @SH)) (And.intro (And.intro @SV @Yb) @XN))
def Y7 := EK 61 Tryd.func41 Aaf Zy rfl

def Hz : Af := .seq (.seq (.draw 20 [mv_ 49 11,
  po_ 50 (.bin 3 .lss (.t 49) (ci_ 258)),
  mv_ 51 50,
  ⟨some 52, .p (.mov (.t 7)), some ⟨51, true⟩⟩,
  ⟨some 53, .p (.mov (.t 11)), some ⟨51, true⟩⟩,
  ⟨some 54, .p (.bin 3 .add (.t 52) (.t 53)), some ⟨51, true⟩⟩,
  ⟨some 55, .p (.load false 1 (.t 1)), some ⟨51, true⟩⟩,
  ⟨some 56, .p (.lenV (.t 55)), some ⟨51, true⟩⟩,
  ⟨some 57, .p (.bin 3 .lss (.t 54) (.t 56)), some ⟨51, true⟩⟩,
  po_ 58 (.pick (.t 51) (.t 57) (.c (.bool false))),
  mv_ 59 58,
  ⟨some 60, .p (.load false 1 (.t 1)), some ⟨59, true⟩⟩,
  ⟨some 61, .p (.mov (.t 9)), some ⟨59, true⟩⟩,
  ⟨some 62, .p (.bin 3 .sub (.t 61) (ci_ 1)), some ⟨59, true⟩⟩,
  ⟨some 63, .p (.mov (.t 11)), some ⟨59, true⟩⟩,
  ⟨some 64, .p (.bin 3 .add (.t 62) (.t 63)), some ⟨59, true⟩⟩,
  ⟨some 65, .p (.idxA 1 (.t 60) (.t 64)), some ⟨59, true⟩⟩,
  ⟨some 66, .p (.load false 1 (.t 65)), some ⟨59, true⟩⟩,
  ⟨some 67, .p (.load false 1 (.t 1)), some ⟨59, true⟩⟩,
  ⟨some 68, .p (.mov (.t 7)), some ⟨59, true⟩⟩,
  ⟨some 69, .p (.mov (.t 11)), some ⟨59, true⟩⟩,
  ⟨some 70, .p (.bin 3 .add (.t 68) (.t 69)), some ⟨59, true⟩⟩,
  ⟨some 71, .p (.idxA 1 (.t 67) (.t 70)), some ⟨59, true⟩⟩,
  ⟨some 72, .p (.load false 1 (.t 71)), some ⟨59, true⟩⟩,
  ⟨some 73, .p (.bin 5 .eql (.t 66) (.t 72)), some ⟨59, true⟩⟩,
  po_ 74 (.pick (.t 59) (.t 73) (.c (.bool false)))] [1, 3, 4, 5, 6, 7, 8, 9, 10, 11, 74])
 (.cond (.t 74)
 (.skip)
 (.exit 4)))
 (.block 5 (.ops [mv_ 75 11,
  po_ 76 (.bin 3 .add (.t 75) (ci_ 1)),
  mv_ 11 76] [1, 3, 4, 5, 6, 7, 8, 9, 10, 11]))
def QG : Af := .ops [mv_ 81 11,
  mv_ 82 7,
  mv_ 83 9,
  po_ 84 (.bin 3 .sub (.t 83) (ci_ 1)),
  po_ 85 (.bin 3 .sub (.t 82) (.t 84)),
  ⟨some 86, .p (.build [.val (.int .i64 ((0 : Nat) : Int)), .val (.int .i64 ((0 : Nat) : Int))] [1, 1] [⟨0, .t 81⟩, ⟨1, .t 85⟩]), none⟩,
  ⟨none, .s (.store 2 (.t 8) (.t 86)), none⟩] [1, 3, 4, 5, 6, 7, 8, 9, 10]
def QA : Af := .seq (.seq (.ops [mv_ 77 11,
  po_ 78 (.fieldA 0 0 (.t 8)),
  po_ 79 (.load false 1 (.t 78)),
  po_ 80 (.bin 3 .gtr (.t 77) (.t 79))] [1, 3, 4, 5, 6, 7, 8, 9, 10, 11, 80])
 (.cond (.t 80)
 QG
 (.skip)))
 (.ops [po_ 87 (.load false 1 (.t 5)),
  mv_ 88 9,
  po_ 89 (.bin 3 .sub (.t 88) (ci_ 1)),
  po_ 90 (.idxA 1 (.t 87) (.t 89)),
  po_ 91 (.load false 1 (.t 90)),
  mv_ 9 91] [1, 3, 4, 5, 6, 7, 8, 9, 10])
def QZ : Af := .seq (.block 4 (.loop [1, 3, 4, 5, 6, 7, 8, 9, 10, 11] Hz))
 QA
def PY : Af := .ops [mv_ 47 10,
  po_ 48 (.bin 3 .add (.t 47) (ci_ 1)),
  mv_ 10 48] [1, 3, 4, 5, 6, 7, 8, 9, 10]
def QF : Af := .seq (.block 3 (.seq (.ops [po_ 11 (.mov (ci_ 3))] [1, 3, 4, 5, 6, 7, 8, 9, 10, 11])
 QZ))
 PY
def Hy : Af := .seq (.seq (.ops [mv_ 34 10,
  po_ 35 (.bin 3 .lss (.t 34) (ci_ 150)),
  mv_ 36 35,
  ⟨some 37, .p (.mov (.t 9)), some ⟨36, true⟩⟩,
  ⟨some 38, .p (.bin 3 .gtr (.t 37) (ci_ 0)), some ⟨36, true⟩⟩,
  po_ 39 (.pick (.t 36) (.t 38) (.c (.bool false))),
  mv_ 40 39,
  ⟨some 41, .p (.mov (.t 7)), some ⟨40, true⟩⟩,
  ⟨some 42, .p (.mov (.t 9)), some ⟨40, true⟩⟩,
  ⟨some 43, .p (.bin 3 .sub (.t 42) (ci_ 1)), some ⟨40, true⟩⟩,
  ⟨some 44, .p (.bin 3 .sub (.t 41) (.t 43)), some ⟨40, true⟩⟩,
  ⟨some 45, .p (.bin 3 .leq (.t 44) (ci_ 32768)), some ⟨40, true⟩⟩,
  po_ 46 (.pick (.t 40) (.t 45) (.c (.bool false)))] [1, 3, 4, 5, 6, 7, 8, 9, 10, 46])
 (.cond (.t 46)
 (.skip)
 (.exit 2)))
 QF
def Qa : Af := .block 2 (.loop [1, 3, 4, 5, 6, 7, 8, 9, 10] Hy)
def Rf : Af := .seq (.ops [po_ 10 (.mov (ci_ 0))] [1, 3, 4, 5, 6, 7, 8, 9, 10])
 Qa
def Oz : Af := .seq (.draw 1 [po_ 27 (.load false 1 (.t 4)),
  po_ 28 (.load false 1 (.t 1)),
  mv_ 29 7,
  po_ 30 (.slV 1 (.t 28) (some (.t 29)) none),
  po_ 31 (.gen (.s2a 3 1) [.t 30]),
  po_ 32 (.load true 3 (.t 31)),
  po_ 33 (.gen (.look (.arr 3) (.val (.int .i64 ((0 : Nat) : Int))) false) [.t 27, .t 32]),
  mv_ 9 33] [1, 3, 4, 5, 6, 7, 8, 9])
 Rf
def O9 : Af := .cond (.t 26)
 Oz
 (.skip)
def FW : Af := .seq (.ops [po_ 100 (.bin 3 .lss (.t 99) (.t 98))] [1, 3, 4, 5, 6, 7, 98, 99, 100])
 (.seq (.cond (.t 100)
 (.skip)
 (.exit 6))
 (.seq (.block 7 (.seq (.ops [mv_ 101 6,
  mv_ 102 7,
  so_ 103 (.callv (.t 101) [.t 102])] [1, 3, 4, 5, 6, 7, 98, 99])
 (.ops [mv_ 104 7,
  po_ 105 (.bin 3 .add (.t 104) (ci_ 1)),
  mv_ 7 105] [1, 3, 4, 5, 6, 7, 98, 99])))
 (.ops [po_ 106 (.bin 3 .add (.t 99) (ci_ 1)),
  mv_ 99 106] [1, 3, 4, 5, 6, 7, 98, 99])))
def OM : Af := .seq (.ops [po_ 96 (.fieldA 0 0 (.t 8)),
  po_ 97 (.load false 1 (.t 96)),
  po_ 98 (.max (.t 97) (ci_ 1)),
  po_ 99 (.mov (ci_ 0))] [1, 3, 4, 5, 6, 7, 98, 99])
 (.block 6 (.loop [1, 3, 4, 5, 6, 7, 98, 99] FW))
def OY : Af := .seq (.ops [mv_ 92 3,
  po_ 93 (.load true 2 (.t 8)),
  ⟨some 94, .s (.bslice 2 1 (.agg [.val (.int .i64 ((0 : Nat) : Int)), .val (.int .i64 ((0 : Nat) : Int))]) [⟨0, .t 93⟩]), none⟩,
  so_ 95 (.app 2 16 86 (.t 92) (.t 94)),
  mv_ 3 95] [1, 3, 4, 5, 6, 7, 8])
 OM
def Ov : Af := .seq (.seq (.ops [mv_ 22 7,
  po_ 23 (.bin 3 .add (.t 22) (ci_ 3)),
  po_ 24 (.load false 1 (.t 1)),
  po_ 25 (.lenV (.t 24)),
  po_ 26 (.bin 3 .leq (.t 23) (.t 25))] [1, 3, 4, 5, 6, 7, 8, 26])
 O9)
 OY
def OT : Af := .block 1 (.seq (.ops [po_ 21 (.build [.val (.int .i64 ((0 : Nat) : Int)), .val (.int .i64 ((0 : Nat) : Int))] [1, 1] []),
  so_ 8 (.alloc (.agg [.val (.int .i64 ((0 : Nat) : Int)), .val (.int .i64 ((0 : Nat) : Int))])),
  ⟨none, .s (.store 2 (.t 8) (.t 21)), none⟩] [1, 3, 4, 5, 6, 7, 8])
 Ov)
def OG : Af := .seq (.seq (.ops [mv_ 17 7,
  po_ 18 (.load false 1 (.t 1)),
  po_ 19 (.lenV (.t 18)),
  po_ 20 (.bin 3 .lss (.t 17) (.t 19))] [1, 3, 4, 5, 6, 7, 20])
 (.cond (.t 20)
 (.skip)
 (.exit 0)))
 OT
def O4 : Af := .block 0 (.own 3 2 (.loop [1, 3, 4, 5, 6, 7] OG))
def OD : Af := .seq (.ops [mv_ 107 3,
  mv_ 2 107] [2])
 (.ret)
def OB : Af := .seq (.seq (.ops [po_ 7 (.mov (ci_ 0))] [1, 3, 4, 5, 6, 7])
 O4)
 OD
def OO : Af := .seq (.ops [po_ 16 (.mkf (.func 57) [] [.t 1, .t 4, .t 5]),
  mv_ 6 16] [1, 3, 4, 5, 6])
 OB
def OE : Af := .seq (.ops [po_ 13 (.load false 1 (.t 1)),
  po_ 14 (.lenV (.t 13)),
  so_ 15 (.mks 1 8 (.val (.int .i64 ((0 : Nat) : Int))) (.t 14) (.t 14)),
  so_ 5 (.alloc (.val (.slice none 0 0))),
  ⟨none, .s (.store 1 (.t 5) (.t 15)), none⟩] [1, 3, 4, 5])
 OO
def Ot : Af := .seq (.ops [so_ 12 (.mkm (.arr 3) none),
  so_ 4 (.alloc (.val (.map none))),
  ⟨none, .s (.store 1 (.t 4) (.t 12)), none⟩] [1, 3, 4])
 OE
def OV : Af := .seq (.ops [po_ 3 (.mov (.c (.slice none 0 0)))] [1, 3])
 Ot
def Yw : Af := .seq (.ops [so_ 1 (.box (.t 0)),
  po_ 2 (.mov (.c (.slice none 0 0)))] [1])
 OV
def Yy : List VR := [.tmp 2]
theorem Ahh : Tryd.f42.body.bind (trC Tryd.prog Tryd.f42.ntmps) = some (er Yw) := by kernel_rfl
theorem AhI : trR Tryd.prog Tryd.f42.results.toList = some Yy := by kernel_rfl
def ZX := Aa Hz.eq_1
def AbA := Aa QG.eq_1
def AaB := Aa QA.eq_1
def Aat := Aa QZ.eq_1
def Abs := Aa PY.eq_1
def Abq := Aa QF.eq_1
def AbC := Aa Hy.eq_1
def Aaj := Aa Qa.eq_1
def Abw := Aa Rf.eq_1
def Zi := Aa Oz.eq_1
def Y6 := Aa O9.eq_1
def Zn := Aa FW.eq_1
def Zg := Aa OM.eq_1
def Zo := Aa OY.eq_1
def Zf := Aa Ov.eq_1
def Zj := Aa OT.eq_1
def YS := Aa OG.eq_1
def Y2 := Aa O4.eq_1
def YX := Aa OD.eq_1
def Y0 := Aa OB.eq_1
def Zq := Aa OO.eq_1
def YR := Aa OE.eq_1
def Zh := Aa Ot.eq_1
def YN := Aa OV.eq_1
def Afl := Aa Yw.eq_1
theorem AeK {K : TV → Prop} {e : Env} {H : List Ob} : res Yy e H K = res [.tmp 2] e H K := Ad rfl
def AL := (And.intro (And.intro (And.intro (And.intro (And.intro @ZX @AbA) (And.intro @AaB @Aat)) (And.intro (And.intro @Abs @Abq) (And.intro @AbC @Aaj))) (And.intro (And.intro (And.intro @Abw @Zi) (And.intro @Y6 @Zn)) (And.intro (And.intro @Zg @Zo) (And.intro @Zf @Zj)))) (And.intro (And.intro (And.intro (And.intro @YS @Y2) (And.intro @YX @Y0)) (And.intro (And.intro @Zq @YR) (And.intro @Zh @YN))) (And.intro @Afl @AeK)))
def AfD := EK 108 Tryd.func42 Ahh AhI rfl

def NK : Af := .seq (.ops [po_ 11 (.load false 1 (.t 1)),
  mv_ 12 0,
  po_ 13 (.slV 1 (.t 11) (some (.t 12)) none),
  po_ 14 (.gen (.s2a 3 1) [.t 13]),
  po_ 15 (.load true 3 (.t 14)),
  so_ 5 (.alloc (.arr 3 1 [.val (.int .u8 ((0 : Nat) : Int)), .val (.int .u8 ((0 : Nat) : Int)), .val (.int .u8 ((0 : Nat) : Int))])),
  ⟨none, .s (.store 3 (.t 5) (.t 15)), none⟩] [0, 2, 3, 5])
 (.seq (.draw 3 [po_ 16 (.load false 1 (.t 3)),
  mv_ 17 0,
  po_ 18 (.load false 1 (.t 2)),
  po_ 19 (.load true 3 (.t 5)),
  po_ 20 (.gen (.look (.arr 3) (.val (.int .i64 ((0 : Nat) : Int))) false) [.t 18, .t 19]),
  po_ 21 (.idxA 1 (.t 16) (.t 17)),
  ⟨none, .s (.store 1 (.t 21) (.t 20)), none⟩] [0, 2, 5])
 (.ops [po_ 22 (.load false 1 (.t 2)),
  po_ 23 (.load true 3 (.t 5)),
  mv_ 24 0,
  po_ 25 (.bin 3 .add (.t 24) (ci_ 1)),
  ⟨none, .s (.mupd (.arr 3) (.t 22) (.t 23) (.t 25)), none⟩] []))
def MZ : Af := .cond (.t 10)
 NK
 (.skip)
def UN : Af := .seq (.ops [mv_ 6 0,
  po_ 7 (.bin 3 .add (.t 6) (ci_ 3)),
  po_ 8 (.load false 1 (.t 1)),
  po_ 9 (.lenV (.t 8)),
  po_ 10 (.bin 3 .leq (.t 7) (.t 9))] [0, 1, 2, 3, 10])
 MZ
def UK : List VR := []
theorem Afe : Tryd.f57.body.bind (trC Tryd.prog Tryd.f57.ntmps) = some (er UN) := by kernel_rfl
theorem Afj : trR Tryd.prog Tryd.f57.results.toList = some UK := by kernel_rfl
def XD := Aa NK.eq_1
def X7 := Aa MZ.eq_1
def Ac0 := Aa UN.eq_1
theorem Ach {K : TV → Prop} {e : Env} {H : List Ob} : res UK e H K = res [] e H K := Ad rfl
def TT := (And.intro (And.intro @XD @X7) (And.intro @Ac0 @Ach))
def Aea := EK 26 Tryd.func57 Afe Afj rfl

def MO : Af := .seq (.seq (.ops [mv_ 14 11,
  mv_ 15 2,
  po_ 16 (.bin 3 .leq (.t 14) (.t 15))] [0, 2, 3, 9, 10, 11, 16])
 (.cond (.t 16)
 (.skip)
 (.exit 0)))
 (.seq (.block 1 (.seq (.ops [mv_ 19 3,
  mv_ 20 11,
  so_ 21 (.callv (.t 19) [.t 20]),
  po_ 22 (.field false 1 0 0 (.t 21)),
  mv_ 23 0,
  po_ 24 (.bin 3 .leq (.t 22) (.t 23))] [0, 2, 3, 9, 10, 11, 24])
 (.cond (.t 24)
 (.ops [mv_ 25 11,
   mv_ 10 25] [0, 2, 3, 9, 10, 11])
 (.skip))))
 (.ops [mv_ 17 11,
  po_ 18 (.bin 3 .add (.t 17) (ci_ 1)),
  mv_ 11 18] [0, 2, 3, 9, 10, 11]))
def Na : Af := .block 0 (.loop [0, 2, 3, 9, 10, 11] MO)
def NF : Af := .seq (.ops [mv_ 26 10,
  mv_ 27 3,
  mv_ 28 10,
  so_ 29 (.callv (.t 27) [.t 28]),
  mv_ 8 26,
  ⟨none, .s (.store 2 (.t 9) (.t 29)), none⟩] [8, 9])
 (.ret)
def MF : Af := .seq (.seq (.ops [mv_ 13 1,
  mv_ 11 13] [0, 2, 3, 9, 10, 11])
 Na)
 NF
def NM : Af := .seq (.ops [mv_ 12 1,
  mv_ 10 12] [0, 1, 2, 3, 9, 10])
 MF
def UJ : Af := .seq (.ops [po_ 8 (.mov (ci_ 0)),
  so_ 9 (.alloc (.agg [.val (.int .i64 ((0 : Nat) : Int)), .val (.int .i64 ((0 : Nat) : Int))]))] [0, 1, 2, 3, 9])
 NM
def UV : List VR := [.tmp 8, .cell 9 true 2]
theorem AeB : Tryd.f43.body.bind (trC Tryd.prog Tryd.f43.ntmps) = some (er UJ) := by kernel_rfl
theorem Ae6 : trR Tryd.prog Tryd.f43.results.toList = some UV := by kernel_rfl
def Ym := Aa MO.eq_1
def X8 := Aa Na.eq_1
def X0 := Aa NF.eq_1
def XJ := Aa MF.eq_1
def XF := Aa NM.eq_1
def Ab6 := Aa UJ.eq_1
theorem Ab7 {K : TV → Prop} {e : Env} {H : List Ob} : res UV e H K = res [.tmp 8, .cell 9 true 2] e H K := Ad rfl
def EC := (And.intro (And.intro (And.intro @Ym @X8) (And.intro @X0 @XJ)) (And.intro (And.intro @XF @Ab6) @Ab7))
def AdA := EK 30 Tryd.func43 AeB Ae6 rfl

def Hf : Af := .seq (.draw 5 [mv_ 7 0,
  mv_ 8 0,
  po_ 9 (.nilc (.t 8)),
  po_ 10 (.fieldA 0 0 (.t 9)),
  po_ 11 (.load false 1 (.t 10)),
  mv_ 12 0,
  po_ 13 (.nilc (.t 12)),
  po_ 14 (.fieldA 1 1 (.t 13)),
  po_ 15 (.load false 1 (.t 14)),
  po_ 16 (.conv .u8 (.t 15)),
  ⟨some 17, .s (.bslice 1 1 (.val (.int .u8 ((0 : Nat) : Int))) [⟨0, .t 16⟩]), none⟩,
  so_ 18 (.app 1 1 5 (.t 11) (.t 17)),
  po_ 19 (.nilc (.t 7)),
  po_ 20 (.fieldA 0 0 (.t 19)),
  ⟨none, .s (.store 1 (.t 20) (.t 18)), none⟩] [0])
 (.ops [mv_ 21 0,
  mv_ 22 0,
  po_ 23 (.nilc (.t 21)),
  po_ 24 (.fieldA 1 1 (.t 23)),
  ⟨none, .s (.store 1 (.t 24) (.c (.int .u32 ((0 : Nat) : Int)))), none⟩,
  po_ 25 (.nilc (.t 22)),
  po_ 26 (.fieldA 2 2 (.t 25)),
  ⟨none, .s (.store 1 (.t 26) (ci_ 0)), none⟩] [])
def GX : Af := .cond (.t 6)
 Hf
 (.skip)
def Ld : Af := .seq (.ops [mv_ 2 0,
  po_ 3 (.nilc (.t 2)),
  po_ 4 (.fieldA 2 2 (.t 3)),
  po_ 5 (.load false 1 (.t 4)),
  po_ 6 (.bin 3 .gtr (.t 5) (ci_ 0))] [0, 6])
 GX
def KW : List VR := []
theorem Zc : Tryd.f46.body.bind (trC Tryd.prog Tryd.f46.ntmps) = some (er Ld) := by kernel_rfl
theorem Y5 : trR Tryd.prog Tryd.f46.results.toList = some KW := by kernel_rfl
def QU := Aa Hf.eq_1
def Ro := Aa GX.eq_1
def VL := Aa Ld.eq_1
theorem Xe {K : TV → Prop} {e : Env} {H : List Ob} : res KW e H K = res [] e H K := Ad rfl
def Eh := (And.intro (And.intro @QU @Ro) (And.intro @VL @Xe))
def XH := EK 27 Tryd.func46 Zc Y5 rfl

end Go.Proofs.YtfgljddikcghhaaDoor


namespace Go.Proofs.YtfgljddikcghhaaDoor
open Go.RowKit
variable [AO]
set_option linter.unusedSectionVars false
set_option linter.unusedVariables false
set_option linter.unusedSimpArgs false

/-- The writer. -/
abbrev wrt (o : TV) (held count : Nat) : Ob := .obj 0 (.agg [o, u32 held, i64 (count : Int)])
/-- The bits that it has. -/
structure Amz (H : List Ob) (id : Nat) (B : List Bool) (J : Option Nat) : Prop where
 ex : ∃ (o : TV) (l : List UInt8) (h c : Nat), H[id]? = some (wrt o h c) ∧ AkX H o l J ∧ c ≤ 7 ∧ h < 2 ^ c ∧ B = AC l ++ AV c h
 ne : J ≠ some id
section
omit [AO]
theorem Us (a b : List UInt8) : AC (a ++ b) = AC a ++ AC b := by simp [AC]
theorem Alu : ∀ (n v : Nat), AV n (v % 2 ^ n) = AV n v
 | 0, v => rfl
 | n + 1, v => by
  rw [AV, AV, Nat.pow_succ, Nat.mul_comm (2 ^ n) 2, Nat.mod_mul_right_mod, Nat.mod_mul_right_div_self, Alu n]
theorem ApV {c h : Nat} (hc : 8 ≤ c) : AV 8 (UInt8.ofNat h).toNat ++ AV (c - 8) (h / 2 ^ 8) = AV c h := by
 rw [UInt8.toNat_ofNat', Alu, ← AeI 8 c h hc, ← Ae5 8 c h hc, List.take_append_drop]
theorem AjO : ∀ n, AV n 0 = List.replicate n false
 | 0 => rfl
 | n + 1 => by rw [AV, Nat.zero_div, AjO n]; rfl
theorem Akq (b : UInt8) : AC [b] = AV 8 b.toNat := by simp [AC]
end
theorem Ale {id n v : Nat} {B : List Bool} {J : Option Nat} {H : List Ob} (hw : Amz H id B J) (hn : n ≤ 16) (hv : v < 2 ^ n) (hB : B.length ≤ 8000000) :
  Ap Tryd.prog 41 [.op id 0 [], i64 (v : Int), i64 (n : Int)] H (fun x H' => ∃ j, Amz H' id (B ++ AV n v) (some j) ∧ Frm id J H H' ∧ (J = some j ∨ H.length ≤ j)) := by
 obtain ⟨⟨o, l, h, c, h1, h2, h3, h4, rfl⟩, hne⟩ := hw
 have hid : id < H.length := (List.getElem?_eq_some_iff.1 h1).1
 have hl : l.length ≤ 1000000 := by rw [List.length_append, Bj] at hB; omega
 have hpc : 2 ^ c ≤ 2 ^ 7 := Nat.pow_le_pow_right (by omega) h3
 have hpn : 2 ^ n ≤ 2 ^ 16 := Nat.pow_le_pow_right (by omega) hn
 have hw32 : IntKind.u32.wrap (v : Int) = v := AjN (by omega)
 have hvc : v * 2 ^ c ≤ 65536 * 128 := Nat.mul_le_mul (by omega) (by omega)
 have hor : h ||| v * 2 ^ c = h + v * 2 ^ c := Aj2 h4
 have hlt : h + v * 2 ^ c < 2 ^ (c + n) := by
  have : (v + 1) * 2 ^ c ≤ 2 ^ n * 2 ^ c := Nat.mul_le_mul_right _ hv
  rw [Nat.pow_add, Nat.mul_comm (2 ^ c)]; rw [Nat.add_mul] at this; omega
 have hbits : AV (c + n) (h + v * 2 ^ c) = AV c h ++ AV n v := QW c n h v h4
 refine Y7 (by simp) ?_
 -- the loop, behind the row is there
 have loop : ∀ (H1 : List Ob) (j w : Nat) {L : VEx → Env → List Ob → Prop}, H1[id]? = some (wrt (.os 1 j w [] 0 l.length l.length) (h + v * 2 ^ c) (c + n)) → H1[j]? = some (.obj w (.arr l.length 1 (l.map by8))) → j ≠ id → Frm id J H H1 → (J = some j ∨ H.length ≤ j) →
   (∀ (H' : List Ob) x, Amz H' id (AC l ++ AV c h ++ AV n v) (some j) → Frm id J H H' → L .nor [(0, .op id 0 []), (32, x)] H') → vwp Tryd.prog (.loop [0] DD) (Blk 0 L) [(0, .op id 0 [])] H1 := by
  intro H1 j w L g1 g2 g3 g4 g5 hL
  refine Bi (fun q e H' => ∃ (l1 : List UInt8) (h1 c1 w1 : Nat), q = c1 ∧ H1.length ≤ H'.length ∧ e = [(0, .op id 0 [])] ∧ H'[id]? = some (wrt (.os 1 j w1 [] 0 l1.length l1.length) h1 c1) ∧ H'[j]? = some (.obj w1 (.arr l1.length 1 (l1.map by8))) ∧ Frm id J H H' ∧ c1 ≤ 23 ∧ h1 < 2 ^ c1 ∧ l1.length ≤ 1000010 ∧ AC l1 ++ AV c1 h1 = AC l ++ AV c h ++ AV n v) (c + n) ?_ ?_
  ·exact ⟨l, _, _, w, rfl, Nat.le_refl _, rfl, g1, g2, g4, by omega, hlt, by omega, by rw [hbits, List.append_assoc]⟩
  ·rintro q e H' ⟨l1, h1, c1, w1, hq, k0, rfl, k1, k2, k3, k4, k5, k6, k7⟩
   have hid' : id < H'.length := (List.getElem?_eq_some_iff.1 k1).1
   have hj' : j < H'.length := (List.getElem?_eq_some_iff.1 k2).1
   by_cases hc8 : 8 ≤ c1
   ·simp -dsimp (disch := first | assumption | omega | (simp only [Ae]; done) | (simp only [Ae]; omega)) only [↓Ag, Ac, Ah, Ai, eq_self, Nat.reduceEqDiff, Nat.reducePow, ↓reduceIte, Nat.reduceAdd, reduceCtorEq, Nat.reduceLeDiff, ↓BG, k1, k2, DJ, AnD]
    have hji : ¬ id = j := fun e => g3 e.symm
    have hp8 : h1 / 256 < 2 ^ (c1 - 8) := by
     rw [Nat.div_lt_iff_lt_mul (by omega), show 256 = 2 ^ 8 from rfl, ← Nat.pow_add, show c1 - 8 + 8 = c1 by omega]; exact k5
    refine Am (c1 - 8) (by omega) (by simp; omega) ⟨l1 ++ [UInt8.ofNat h1], h1 / 256, c1 - 8, w1 + 1, rfl, by simp; omega, rfl, ?_, ?_, ⟨?_, fun i hi e1 e2 => ?_⟩, by omega, hp8, ?_, ?_⟩
    ·rw [List.getElem?_append_left (by simpa using hid'), List.getElem?_set_self (by simpa using hid')]; simp
    ·rw [List.getElem?_append_left (by simpa using hj'), List.getElem?_set_ne hji, List.getElem?_set_self hj']; simp
    ·have := k3.1; simp; omega
    ·have h3' := k3.1
     have e3 : j ≠ i := by
      rintro rfl
      rcases g5 with e | e
      ·exact e2 e
      ·omega
     rw [List.getElem?_append_left (by simp; omega), List.getElem?_set_ne (Ne.symm e1), List.getElem?_set_ne e3]
     exact k3.2 i hi e1 e2
    ·have hx := congrArg List.length k7
     simp only [List.length_append, Bj, AZ] at hx hB ⊢
     simp only [List.length_cons, List.length_nil]; omega
    ·rw [Us, Akq, List.append_assoc, show h1 / 256 = h1 / 2 ^ 8 from rfl, ApV hc8]; exact k7
   ·simp -dsimp (disch := first | assumption | omega | (simp only [Ae]; done) | (simp only [Ae]; omega)) only [↓Ag, Ac, Ah, Ai, eq_self, ↓reduceIte, Nat.reduceAdd, reduceCtorEq, ↓BG, k1]
    exact hL _ _ ⟨⟨_, l1, h1, c1, k1, ⟨w1, rfl, k2⟩, by omega, k5, k7.symm⟩, by simpa using g3⟩ k3
 cases J with
 | none =>
  obtain ⟨rfl, rfl⟩ := h2
  simp -dsimp (disch := first | assumption | omega | (simp only [Ae]; done) | (simp only [Ae]; omega)) only [↓Ag, Ac, Ah, Ai, eq_self, Nat.reduceEqDiff, ↓reduceIte, Nat.reduceAdd, reduceCtorEq, ↓BG, h1, hw32, hor, AfY, Alm]
  refine loop _ H.length 0 ?_ ?_ (by omega) ⟨by simp, fun i hi e1 _ => ?_⟩ (.inr (Nat.le_refl _)) fun H' x w1 w2 => ?_
  ·rw [List.getElem?_append_left (by simpa using hid), List.getElem?_set_self hid]; rfl
  ·rw [List.getElem?_append_right (by simp)]; simp
  ·rw [List.getElem?_append_left (by simpa using hi), List.getElem?_set_ne (Ne.symm e1)]
  ·simp -dsimp (disch := first | assumption | omega | (simp only [Ae]; done) | (simp only [Ae]; omega)) only [↓Ag, ↓BG]
   exact ⟨_, w1, w2, .inr (Nat.le_refl _)⟩
 | some j =>
  obtain ⟨w, rfl, hj⟩ := h2
  have hji : j ≠ id := fun e => hne (by rw [e])
  have hji' : id ≠ j := fun e => hji e.symm
  simp -dsimp (disch := first | assumption | omega | (simp only [Ae]; done) | (simp only [Ae]; omega)) only [↓Ag, Ac, Ah, Ai, eq_self, Nat.reduceEqDiff, ↓reduceIte, Nat.reduceAdd, reduceCtorEq, ↓BG, h1, hw32, hor, AfY, Alm]
  refine loop _ j w ?_ ?_ hji ⟨by simp, fun i hi e1 _ => ?_⟩ (.inl rfl) fun H' x w1 w2 => ?_
  ·rw [List.getElem?_set_self hid]
  ·rw [List.getElem?_set_ne hji']; exact hj
  ·rw [List.getElem?_set_ne (Ne.symm e1)]
  ·simp -dsimp (disch := first | assumption | omega | (simp only [Ae]; done) | (simp only [Ae]; omega)) only [↓Ag, ↓BG]
   exact ⟨_, w1, w2, .inl rfl⟩
/-- Bits up to the next byte. -/
theorem AwN {id : Nat} {B : List Bool} {J : Option Nat} {H : List Ob} (hw : Amz H id B J) (hB : B.length ≤ 8000000) :
  Ap Tryd.prog 46 [.op id 0 []] H (fun x H' => ∃ (o : TV) (l : List UInt8) (J' : Option Nat), H'[id]? = some (wrt o 0 0) ∧ AkX H' o l J' ∧ AC l = B ++ List.replicate ((8 - B.length % 8) % 8) false ∧ Frm id J H H' ∧ Jn J J' H) := by
 obtain ⟨⟨o, l, h, c, h1, h2, h3, h4, rfl⟩, hne⟩ := hw
 have hid : id < H.length := (List.getElem?_eq_some_iff.1 h1).1
 have hl : l.length ≤ 1000000 := by rw [List.length_append, Bj] at hB; omega
 have hpc : 2 ^ c ≤ 2 ^ 7 := Nat.pow_le_pow_right (by omega) h3
 have hw8 : AV 8 (UInt8.ofNat h).toNat = AV c h ++ List.replicate (8 - c) false := by
  rw [UInt8.toNat_ofNat', Nat.mod_eq_of_lt (by omega), ← AjO (8 - c)]
  have := QW c (8 - c) h 0 h4
  rw [Nat.zero_mul, Nat.add_zero, show c + (8 - c) = 8 by omega] at this
  exact this
 have hpad : (8 - (AC l ++ AV c h).length % 8) % 8 = if c = 0 then 0 else 8 - c := by
  rw [List.length_append, Bj, AZ]
  split <;> omega
 rw [hpad]
 refine XH (by simp) ?_
 by_cases hc : c = 0
 ·subst hc
  have hh : h = 0 := by simpa using h4
  subst hh
  have hwo := h2.width1
  simp -dsimp (disch := first | assumption | omega | (simp only [Ae]; done) | (simp only [Ae]; omega)) only [↓Ag, Ac, Ah, Ai, eq_self, Nat.reduceLT, ↓reduceIte, Nat.reduceAdd, reduceCtorEq, ↓Eh, h1, hwo]
  exact ⟨o, l, J, rfl, h2, by simp [AV], Frm.refl, Jn.refl⟩
 ·rw [if_neg hc]
  cases J with
  | none =>
   obtain ⟨rfl, rfl⟩ := h2
   simp -dsimp (disch := first | assumption | omega | (simp only [Ae]; done) | (simp only [Ae]; omega)) only [↓Ag, Ac, Ah, Ai, eq_self, Nat.reduceEqDiff, ↓reduceIte, Nat.reduceAdd, reduceCtorEq, Nat.reduceLeDiff, ↓Eh, h1, DJ]
   refine ⟨_, [UInt8.ofNat h], some (H.length + 1), rfl, ⟨1, rfl, ?_⟩, ?_, ⟨?_, fun i hi e1 e2 => ?_⟩, .inr fun j e => ?_⟩
   ·rw [List.getElem?_append_right (by simp)]; simp
   ·rw [Akq, hw8]; rfl
   ·simp only [List.length_append, List.length_set]; omega
   ·rw [List.append_assoc, List.getElem?_append_left (by simpa using hi), List.getElem?_set_ne (Ne.symm e1)]
   ·cases e; omega
  | some j =>
   obtain ⟨w, rfl, hj⟩ := h2
   have hji : j ≠ id := fun e => hne (by rw [e])
   have hji' : id ≠ j := fun e => hji e.symm
   have hjl : j < H.length := (List.getElem?_eq_some_iff.1 hj).1
   simp -dsimp (disch := first | assumption | omega | (simp only [Ae]; done) | (simp only [Ae]; omega)) only [↓Ag, Ac, Ah, Ai, eq_self, Nat.reduceEqDiff, ↓reduceIte, Nat.reduceAdd, reduceCtorEq, Nat.reduceLeDiff, ↓Eh, h1, hj, DJ]
   refine ⟨_, l ++ [UInt8.ofNat h], some j, ?_, ⟨w + 1, rfl, ?_⟩, ?_, ⟨?_, fun i hi e1 e2 => ?_⟩, .inl rfl⟩
   ·simp
   ·rw [List.getElem?_append_left (by simpa using hjl), List.getElem?_set_ne hji', List.getElem?_set_self hjl]; simp
   ·rw [Us, Akq, hw8, List.append_assoc]
   ·simp
   ·have e3 : j ≠ i := fun e => e2 (by rw [e])
    rw [List.getElem?_append_left (by simpa using hi), List.getElem?_set_ne (Ne.symm e1), List.getElem?_set_ne e3]
end Go.Proofs.YtfgljddikcghhaaDoor


namespace Go.Proofs.YtfgljddikcghhaaDoor
open Go.RowKit
variable [AO]
set_option linter.unusedSectionVars false
set_option linter.unusedVariables false
set_option linter.unusedSimpArgs false

section
omit [AO]
/-- Three bytes. -/
def Agy (b : List UInt8) (i : Nat) : List UInt8 := (b.drop i).take 3
/-- Where they stood last, ahead of i, and 1; 0: nowhere. -/
def OC (b k : List UInt8) : Nat → Nat
 | 0 => 0
 | i + 1 => if i + 3 ≤ b.length ∧ Agy b i = k then i + 1 else OC b k i
def pv (b : List UInt8) (q : Nat) : Nat := OC b (Agy b q) q
/-- How many bytes are alike. -/
def Ahj (b : List UInt8) (j i : Nat) : Nat → Nat → Nat
 | 0, k => k
 | f + 1, k => if k < 258 ∧ i + k < b.length ∧ b[j + k]? = b[i + k]? then Ahj b j i f (k + 1) else k
/-- The longest copy among so many places. -/
def look (b : List UInt8) (i : Nat) : Nat → Nat → Nat × Nat → Nat × Nat
 | 0, _, t => t
 | f + 1, at_, t => if at_ = 0 ∨ 32768 < i - (at_ - 1) then t else
   look b i f (pv b (at_ - 1)) (if t.1 < Ahj b (at_ - 1) i 255 3 then (Ahj b (at_ - 1) i 255 3, i - (at_ - 1)) else t)
def FY (b : List UInt8) (i : Nat) : Nat × Nat := if i + 3 ≤ b.length then look b i 150 (OC b (Agy b i) i) (0, 0) else (0, 0)
def ApI (b : List UInt8) : Nat → Nat → List (Nat × Nat)
 | 0, _ => []
 | f + 1, i => if i < b.length then FY b i :: ApI b f (i + max (FY b i).1 1) else []
theorem Wp (b k : List UInt8) : ∀ i, OC b k i ≤ i
 | 0 => Nat.le_refl _
 | i + 1 => by rw [OC]; split; exact Nat.le_refl _; exact Nat.le_succ_of_le (Wp b k i)
theorem PO (b k : List UInt8) : ∀ i, OC b k i ≠ 0 → OC b k i - 1 + 3 ≤ b.length ∧ Agy b (OC b k i - 1) = k
 | 0, h => absurd rfl h
 | i + 1, h => by
  rw [OC] at h ⊢
  split
  ·rename_i hc; simpa using hc
  ·rename_i hc; rw [if_neg hc] at h; exact PO b k i h
theorem Akx {b : List UInt8} {j i : Nat} : ∀ {f k : Nat}, k ≤ 258 → Ahj b j i f k ≤ 258
 | 0, k, h => h
 | f + 1, k, h => by
  rw [Ahj]; split
  ·exact Akx (by omega)
  ·exact h
theorem Am1 {b : List UInt8} {j i : Nat} : ∀ {f k : Nat}, k ≤ Ahj b j i f k
 | 0, k => Nat.le_refl _
 | f + 1, k => by
  rw [Ahj]; split
  ·exact Nat.le_trans (Nat.le_succ k) Am1
  ·exact Nat.le_refl _
theorem An2 {b : List UInt8} {i : Nat} (h : i + 3 ≤ b.length) : (Agy b i).length = 3 := by simp [Agy]; omega
end
section
omit [AO]
theorem AhN {b : List UInt8} {j i : Nat} : ∀ {f k : Nat}, i + k ≤ b.length → i + Ahj b j i f k ≤ b.length
 | 0, k, h => h
 | f + 1, k, h => by
  rw [Ahj]; split
  ·exact AhN (by omega)
  ·exact h
theorem Axl {b : List UInt8} {j i k : Nat} (h1 : k < 258) (h2 : i + k < b.length) (h3 : b[j + k]? = b[i + k]?) : Ahj b j i (258 - k) k = Ahj b j i (258 - (k + 1)) (k + 1) := by
 rw [show 258 - k = (258 - (k + 1)) + 1 by omega, Ahj, if_pos ⟨h1, h2, h3⟩]
theorem AkT {b : List UInt8} {j i k : Nat} (h : ¬ (k < 258 ∧ i + k < b.length ∧ b[j + k]? = b[i + k]?)) : Ahj b j i (258 - k) k = k := by
 cases e : 258 - k with
 | zero => rfl
 | succ f => rw [Ahj, if_neg h]
end
/-- The table: of each AvP bytes where they stood last. -/
def AA8 (es : List (List UInt8 × TV)) (f : List UInt8 → Nat) : Prop := ∀ y, (Ac6 y es).getD (i64 ((0 : Nat) : Int)) = i64 ((f y : Nat) : Int)
def AB1 (es : List (List UInt8 × TV)) : Prop := ∀ g, LX g (es.map (·.2)) = true
theorem ABG {k l : List UInt8} {x : TV} : ∀ {es : List (List UInt8 × TV)}, Ac6 k (Ae8 l x es) = if l = k then some x else Ac6 k es
 | [] => by simp [Ae8, Ac6]
 | (q, y) :: es => by
  rw [Ae8]
  by_cases hq : q = l
  ·subst hq
   rw [if_pos rfl, Ac6, Ac6]
   by_cases h : q = k <;> simp [h]
  ·rw [if_neg hq, Ac6, Ac6, ABG]
   by_cases h : q = k
   ·subst h; rw [if_pos rfl, if_neg (fun e => hq e.symm), if_pos rfl]
   ·rw [if_neg h, if_neg h]
theorem AA8.put {es : List (List UInt8 × TV)} {f : List UInt8 → Nat} (h : AA8 es f) (p : List UInt8) (n : Nat) : AA8 (Ae8 p (i64 ((n : Nat) : Int)) es) (fun y => if p = y then n else f y) := by
 intro y
 rw [ABG]
 by_cases e : p = y
 ·simp [e]
 ·simp only [if_neg e]; exact h y
theorem AB1.put {es : List (List UInt8 × TV)} (h : AB1 es) {k : List UInt8} {x : TV} (hx : ∀ g, Gm g x = true) : AB1 (Ae8 k x es) := by
 intro g
 have h1 := h g
 clear h
 induction es with
 | nil => rw [Ae8, List.map_cons, LX, hx g]; rfl
 | cons e es ih =>
  obtain ⟨q, y⟩ := e
  rw [List.map_cons, LX, Bool.and_eq_true] at h1
  rw [Ae8]
  split
  ·rw [List.map_cons, LX, hx g, h1.2]; rfl
  ·rw [List.map_cons, LX, h1.1, ih h1.2]; rfl
abbrev ApJ (l : List Nat) : List TV := l.map fun (n : Nat) => i64 (n : Int)
theorem Aoc {l : List Nat} {i n : Nat} : (ApJ l).set i (i64 (n : Int)) = ApJ (l.set i n) := by simp [ApJ, List.map_set]
theorem ACd {b : List UInt8} {i : Nat} {es : List (List UInt8 × TV)} {ah : List Nat} {H : List Ob} (hi : i ≤ b.length) (hb : b.length ≤ 1000000) (h0 : H[0]? = some (.obj 0 (slB b))) (h1 : H[1]? = some (.mpo (.arr 3) es)) (h2 : H[2]? = some (.obj 0 (.mp 1 0))) (h3 : H[3]? = some (.obj 0 (.arr b.length 1 (ApJ ah)))) (h4 : H[4]? = some (.obj 0 (.os 1 3 0 [] 0 b.length b.length)))
  (hl : ah.length = b.length) (hc : AA8 es (fun k => OC b k i)) :
  Ap Tryd.prog 57 [i64 (i : Int), .op 0 0 [], .op 2 0 [], .op 4 0 []] H (fun x H' => if i + 3 ≤ b.length then ∃ o, H' = (H.set 3 (.obj 0 (.arr b.length 1 (ApJ (ah.set i (pv b i)))))).set 1 (.mpo (.arr 3) (Ae8 (Agy b i) (i64 ((i + 1 : Nat) : Int)) es)) ++ [o] else H' = H) := by
 refine Aea (by simp) ?_
 by_cases hf : i + 3 ≤ b.length
 ·simp only [if_pos hf]
  have hgl := An2 hf
  have hl4 : 4 < H.length := (List.getElem?_eq_some_iff.1 h4).1
  have hcp : (Ac6 (List.take 3 (List.drop i b)) es).getD (i64 ((0 : Nat) : Int)) = i64 ((pv b i : Nat) : Int) := hc (Agy b i)
  obtain ⟨a, hai⟩ : ∃ a, ah[i]? = some a := ⟨_, List.getElem?_eq_getElem (by omega)⟩
  have hl1 : ((H.set 3 (.obj 0 (.arr b.length 1 (ApJ (ah.set i (pv b i))))))[1]?) = some (.mpo (.arr 3) es) := by rw [List.getElem?_set_ne (by omega)]; exact h1
  simp -dsimp (disch := first | assumption | omega | (simp only [Ae]; done) | (simp only [Ae]; omega)) only [↓Ag, Ac, Ah, Ai, eq_self, Nat.reduceLT, Nat.reduceEqDiff, ↓reduceIte, Nat.reduceAdd, reduceCtorEq, ↓TT, h0, h1, h2, h3, h4, hcp, hai]
  exact ⟨_, by rw [Aoc]; rfl⟩
 ·simp only [if_neg hf]
  simp -dsimp (disch := first | assumption | omega | (simp only [Ae]; done) | (simp only [Ae]; omega)) only [↓Ag, Ac, Ah, Ai, eq_self, Nat.reduceEqDiff, ↓reduceIte, Nat.reduceAdd, reduceCtorEq, ↓TT, h0]
abbrev tkT (t : Nat × Nat) : TV := .agg [i64 (t.1 : Int), i64 (t.2 : Int)]
/-- The objects of tokens. -/
abbrev tkH (b : List UInt8) (es : List (List UInt8 × TV)) (ah : List Nat) (v : Nat) (l : List (Nat × Nat)) : List Ob :=
 [.obj 0 (slB b), .mpo (.arr 3) es, .obj 0 (.mp 1 0), .obj 0 (.arr b.length 1 (ApJ ah)), .obj 0 (.os 1 3 0 [] 0 b.length b.length), .obj v (.arr l.length 2 (l.map tkT))]
abbrev tkF : TV := .fn (.func 57) [] [.op 0 0 [], .op 2 0 [], .op 4 0 []]
/-- Where we are. -/
structure ApT (b : List UInt8) (i : Nat) (es : List (List UInt8 × TV)) (ah : List Nat) : Prop where
 cnt : AA8 es (fun k => OC b k i)
 bel : AB1 es
 len : ah.length = b.length
 at_ : ∀ q, q < i → q + 3 ≤ b.length → ah[q]? = some (pv b q)
theorem ApT.next {b : List UInt8} {i : Nat} {es : List (List UInt8 × TV)} {ah : List Nat} (h : ApT b i es ah) (hi : i + 3 ≤ b.length) : ApT b (i + 1) (Ae8 (Agy b i) (i64 ((i + 1 : Nat) : Int)) es) (ah.set i (pv b i)) := by
 refine ⟨?_, h.bel.put fun g => rfl, by simpa using h.len, fun q hq hq3 => ?_⟩
 ·have := h.cnt.put (Agy b i) (i + 1)
  intro y
  rw [this y]
  simp only [OC, hi, true_and]
 ·by_cases e : i = q
  ·subst e; rw [List.getElem?_set_self (by rw [h.len]; omega)]
  ·rw [List.getElem?_set_ne e]; exact h.at_ q (by omega) hq3
theorem ApT.skip {b : List UInt8} {i : Nat} {es : List (List UInt8 × TV)} {ah : List Nat} (h : ApT b i es ah) (hi : ¬ i + 3 ≤ b.length) : ApT b (i + 1) es ah :=
 ⟨fun y => by rw [h.cnt y]; simp only [OC, hi, false_and, if_false], h.bel, h.len, fun q hq hq3 => h.at_ q (by omega) hq3⟩
/-- How far the bytes are alike. -/
theorem Atb {b : List UInt8} {i p m : Nat} {es : List (List UInt8 × TV)} {ah : List Nat} {v : Nat} {l : List (Nat × Nat)} {t : Nat × Nat} {Q : VEx → Env → List Ob → Prop} (hb : b.length ≤ 1000000) (hp : p < i) (hi : i + 3 ≤ b.length)
  (h : ∀ y, Q .nor [(1, .op 0 0 []), (3, .os 2 5 v [] 0 l.length l.length), (4, .op 2 0 []), (5, .op 4 0 []), (6, tkF), (7, i64 (i : Int)), (8, .op 6 0 []), (9, i64 ((p + 1 : Nat) : Int)), (10, i64 (m : Int)), (11, i64 ((Ahj b p i 255 3 : Nat) : Int)), (74, y)] (tkH b es ah v l ++ [.obj 0 (tkT t)])) :
  vwp Tryd.prog (.loop [1, 3, 4, 5, 6, 7, 8, 9, 10, 11] Hz) (Blk 4 Q) [(1, .op 0 0 []), (3, .os 2 5 v [] 0 l.length l.length), (4, .op 2 0 []), (5, .op 4 0 []), (6, tkF), (7, i64 (i : Int)), (8, .op 6 0 []), (9, i64 ((p + 1 : Nat) : Int)), (10, i64 (m : Int)), (11, i64 ((3 : Nat) : Int))] (tkH b es ah v l ++ [.obj 0 (tkT t)]) := by
 refine Bi (fun q e H => ∃ k, q = 258 - k ∧ 3 ≤ k ∧ k ≤ 258 ∧ i + k ≤ b.length ∧ Ahj b p i (258 - k) k = Ahj b p i 255 3 ∧ e = [(1, .op 0 0 []), (3, .os 2 5 v [] 0 l.length l.length), (4, .op 2 0 []), (5, .op 4 0 []), (6, tkF), (7, i64 (i : Int)), (8, .op 6 0 []), (9, i64 ((p + 1 : Nat) : Int)), (10, i64 (m : Int)), (11, i64 (k : Int))] ∧ H = tkH b es ah v l ++ [.obj 0 (tkT t)]) 255 ?_ ?_
 ·exact ⟨3, rfl, by omega, by omega, by omega, rfl, rfl, rfl⟩
 ·rintro q e H ⟨k, hq, k1, k2, k3, k4, rfl, rfl⟩
  by_cases h1 : k < 258
  ·by_cases h2 : i + k < b.length
   ·obtain ⟨x, hx⟩ : ∃ x, b[p + k]? = some x := ⟨_, List.getElem?_eq_getElem (by omega)⟩
    obtain ⟨y, hy⟩ : ∃ y, b[i + k]? = some y := ⟨_, List.getElem?_eq_getElem h2⟩
    by_cases hxy : x.toNat = y.toNat
    ·simp -dsimp (disch := first | assumption | omega) only [↓Ag, Ac, Ah, Ai, eq_self, Nat.reduceEqDiff, ↓reduceIte, Nat.reduceAdd, ↓AL, hx, hy]
     refine Am (258 - (k + 1)) (by omega) (by simp) ⟨k + 1, rfl, by omega, by omega, by omega, ?_, rfl, rfl⟩
     rw [← k4, Axl h1 h2 (by rw [hx, hy, UInt8.toNat_inj.1 hxy])]
    ·simp -dsimp (disch := first | assumption | omega) only [↓Ag, Ac, Ah, Ai, eq_self, Nat.reduceEqDiff, ↓reduceIte, ↓AL, hx, hy]
     rw [← AkT (b := b) (j := p) (i := i) (k := k) (fun h => hxy (by rw [hx, hy] at h; rw [Option.some.inj h.2.2])), k4]
     exact h _
   ·simp -dsimp (disch := first | assumption | omega) only [↓Ag, Ac, Ah, Ai, eq_self, Nat.reduceEqDiff, ↓reduceIte, ↓AL]
    rw [← AkT (b := b) (j := p) (i := i) (k := k) (fun h => h2 h.2.1), k4]
    exact h _
  ·simp -dsimp (disch := first | assumption | omega) only [↓Ag, Ac, Ah, Ai, eq_self, Nat.reduceEqDiff, ↓reduceIte, ↓AL]
   rw [← AkT (b := b) (j := p) (i := i) (k := k) (fun h => h1 h.1), k4]
   exact h _
section
omit [AO]
theorem Amk {b : List UInt8} {i : Nat} (hi : i < b.length) : ∀ {f at_ : Nat} {t : Nat × Nat}, i + 3 ≤ b.length → i + t.1 ≤ b.length ∧ t.1 ≤ 258 ∧ t.2 ≤ 32768 → i + (look b i f at_ t).1 ≤ b.length ∧ (look b i f at_ t).1 ≤ 258 ∧ (look b i f at_ t).2 ≤ 32768
 | 0, at_, t, _, h => h
 | f + 1, at_, t, h3, h => by
  rw [look]; split
  ·exact h
  ·rename_i hc
   refine Amk hi h3 ?_
   split
   ·exact ⟨AhN (by omega), Akx (by omega), by omega⟩
   ·exact h
end
/-- The longest copy. -/
theorem Axg {b : List UInt8} {i : Nat} {es : List (List UInt8 × TV)} {ah : List Nat} {v : Nat} {l : List (Nat × Nat)} {Q : VEx → Env → List Ob → Prop} (hb : b.length ≤ 1000000) (hi : i + 3 ≤ b.length) (hk : ApT b i es ah)
  (h : ∀ y z w, Q .nor [(1, .op 0 0 []), (3, .os 2 5 v [] 0 l.length l.length), (4, .op 2 0 []), (5, .op 4 0 []), (6, tkF), (7, i64 (i : Int)), (8, .op 6 0 []), (9, y), (10, z), (46, w)] (tkH b es ah v l ++ [.obj 0 (tkT (FY b i))])) :
  vwp Tryd.prog (.loop [1, 3, 4, 5, 6, 7, 8, 9, 10] Hy) (Blk 2 Q) [(1, .op 0 0 []), (3, .os 2 5 v [] 0 l.length l.length), (4, .op 2 0 []), (5, .op 4 0 []), (6, tkF), (7, i64 (i : Int)), (8, .op 6 0 []), (9, i64 ((OC b (Agy b i) i : Nat) : Int)), (10, i64 ((0 : Nat) : Int))] (tkH b es ah v l ++ [.obj 0 (tkT (0, 0))]) := by
 have hf : FY b i = look b i 150 (OC b (Agy b i) i) (0, 0) := by rw [FY, if_pos hi]
 refine Bi (fun q e H => ∃ m at_ t, q = 150 - m ∧ m ≤ 150 ∧ at_ ≤ i ∧ (at_ ≠ 0 → at_ - 1 + 3 ≤ b.length ∧ Agy b (at_ - 1) = Agy b i) ∧ (i + t.1 ≤ b.length ∧ t.1 ≤ 258 ∧ t.2 ≤ 32768) ∧ look b i (150 - m) at_ t = FY b i ∧ e = [(1, .op 0 0 []), (3, .os 2 5 v [] 0 l.length l.length), (4, .op 2 0 []), (5, .op 4 0 []), (6, tkF), (7, i64 (i : Int)), (8, .op 6 0 []), (9, i64 (at_ : Int)), (10, i64 (m : Int))] ∧ H = tkH b es ah v l ++ [.obj 0 (tkT t)]) 150 ?_ ?_
 ·exact ⟨0, _, (0, 0), rfl, by omega, Wp _ _ _, fun h => PO _ _ _ h, ⟨by simp; omega, by simp, by simp⟩, hf.symm, rfl, rfl⟩
 ·rintro q e H ⟨m, at_, t, hq, hm, ha, hg, ⟨ht1, ht2, ht3⟩, hl, rfl, rfl⟩
  have fin : ¬ (m < 150 ∧ at_ ≠ 0 ∧ ¬ 32768 < i - (at_ - 1)) → t = FY b i := by
   intro hn
   rw [← hl]
   by_cases hm' : m < 150
   ·rw [show 150 - m = (150 - (m + 1)) + 1 by omega, look, if_pos (by omega)]
   ·rw [show 150 - m = 0 by omega, look]
  by_cases h1 : m < 150
  ·by_cases h2 : at_ = 0
   ·have := fin (by omega)
    subst h2
    subst this
    simp -dsimp (disch := first | assumption | omega) only [↓Ag, Ac, Ah, Ai, eq_self, Nat.reduceLT, Nat.reduceEqDiff, ↓reduceIte, ↓AL]
    exact h _ _ _
   ·obtain ⟨p, rfl⟩ : ∃ p, at_ = p + 1 := ⟨at_ - 1, by omega⟩
    obtain ⟨hg1, hg2⟩ := hg h2
    rw [Nat.add_sub_cancel] at hg1 hg2 fin
    by_cases h3 : 32768 < i - p
    ·have := fin (by omega)
     subst this
     simp -dsimp (disch := first | assumption | omega) only [↓Ag, Ac, Ah, Ai, eq_self, Nat.reduceEqDiff, ↓reduceIte, ↓AL]
     exact h _ _ _
    ·have hpi : p < i := by omega
     have hah := hk.at_ p hpi hg1
     simp -dsimp (disch := first | assumption | omega) only [↓Ag, Ac, Ah, Ai, eq_self, Nat.reduceEqDiff, ↓reduceIte, Nat.reduceAdd, ↓AL]
     refine Atb (m := m) hb hpi hi fun y => ?_
     have hml1 := Am1 (b := b) (j := p) (i := i) (f := 255) (k := 3)
     have hml2 := Akx (b := b) (j := p) (i := i) (f := 255) (k := 3) (by omega)
     have hml3 := AhN (b := b) (j := p) (i := i) (f := 255) (k := 3) hi
     have hst : look b i (150 - m) (p + 1) t = look b i (150 - (m + 1)) (pv b p) (if t.1 < Ahj b p i 255 3 then (Ahj b p i 255 3, i - p) else t) := by
      rw [show 150 - m = (150 - (m + 1)) + 1 by omega, look, Nat.add_sub_cancel, if_neg (by omega)]
     by_cases h4 : t.1 < Ahj b p i 255 3
     ·simp -dsimp (disch := first | assumption | omega) only [↓Ag, Ac, Ah, Ai, eq_self, Nat.reduceEqDiff, ↓reduceIte, Nat.reduceAdd, ↓AL, hah]
      refine Am (150 - (m + 1)) (by omega) (by simp) ⟨m + 1, pv b p, (Ahj b p i 255 3, i - p), rfl, by omega, by have := Wp b (Agy b p) p; unfold pv; omega, fun hne => ?_, ⟨hml3, hml2, by simp only []; omega⟩, ?_, rfl, rfl⟩
      ·obtain ⟨w1, w2⟩ := PO b (Agy b p) p hne
       exact ⟨w1, w2.trans hg2⟩
      ·rw [← hl, hst, if_pos h4]
     ·simp -dsimp (disch := first | assumption | omega) only [↓Ag, Ac, Ah, Ai, eq_self, Nat.reduceEqDiff, ↓reduceIte, ↓AL, hah]
      refine Am (150 - (m + 1)) (by omega) (by simp) ⟨m + 1, pv b p, t, rfl, by omega, by have := Wp b (Agy b p) p; unfold pv; omega, fun hne => ?_, ⟨ht1, ht2, ht3⟩, ?_, rfl, rfl⟩
      ·obtain ⟨w1, w2⟩ := PO b (Agy b p) p hne
       exact ⟨w1, w2.trans hg2⟩
      ·rw [← hl, hst, if_neg h4]
  ·have := fin (by omega)
   subst this
   simp -dsimp (disch := first | assumption | omega) only [↓Ag, Ac, Ah, Ai, eq_self, Nat.reduceEqDiff, ↓reduceIte, ↓AL]
   exact h _ _ _
section
omit [AO]
theorem At8 {b : List UInt8} {i : Nat} (hi : i < b.length) : i + (FY b i).1 ≤ b.length ∧ (FY b i).1 ≤ 258 ∧ (FY b i).2 ≤ 32768 := by
 unfold FY
 split
 ·rename_i h; exact Amk hi h ⟨by simp; omega, by simp, by simp⟩
 ·exact ⟨by simp; omega, by simp, by simp⟩
end
theorem ABq : AiC Tryd.prog 57 = true := by kernel_rfl
abbrev tkE (v n i : Nat) : Env := [(1, .op 0 0 []), (3, .os 2 5 v [] 0 n n), (4, .op 2 0 []), (5, .op 4 0 []), (6, tkF), (7, i64 (i : Int))]
/-- The token is laid, and the places are kept. -/
theorem AnF {b : List UInt8} {i : Nat} {es : List (List UInt8 × TV)} {ah : List Nat} {v : Nat} {l : List (Nat × Nat)} {R0 : List Ob} {M : Nat} {Q : VEx → Env → List Ob → Prop} (hb : b.length ≤ 1000000) (hM : i + M ≤ b.length) (hk : ApT b i es ah)
  (h : ∀ y z w es' ah' R', ApT b (i + M) es' ah' → Q .nor (tkE v l.length (i + M) ++ [(98, y), (99, z), (100, w)]) (tkH b es' ah' v l ++ R')) :
  vwp Tryd.prog (.loop [1, 3, 4, 5, 6, 7, 98, 99] FW) (Blk 6 Q) (tkE v l.length i ++ [(98, i64 (M : Int)), (99, i64 ((0 : Nat) : Int))]) (tkH b es ah v l ++ R0) := by
 refine Bi (fun q e H => ∃ r es ah R, q = M - r ∧ r ≤ M ∧ R0.length ≤ R.length ∧ ApT b (i + r) es ah ∧ e = tkE v l.length (i + r) ++ [(98, i64 (M : Int)), (99, i64 (r : Int))] ∧ H = tkH b es ah v l ++ R) M ?_ ?_
 ·exact ⟨0, es, ah, R0, rfl, by omega, Nat.le_refl _, hk, rfl, rfl⟩
 ·rintro q e H ⟨r, es, ah, R, hq, hr, hR, hk, rfl, rfl⟩
  by_cases h1 : r < M
  ·simp -dsimp (disch := first | assumption | omega) only [↓Ag, Ac, Ah, Ai, eq_self, Nat.reduceEqDiff, ↓reduceIte, ↓AL, ABq]
   refine (ACd (H := tkH b es ah v l ++ R) (b := b) (i := i + r) (es := es) (ah := ah) (by omega) hb rfl rfl rfl rfl rfl hk.len hk.cnt).mono fun x H' hx => ?_
   by_cases hf : i + r + 3 ≤ b.length
   ·simp only [if_pos hf] at hx
    obtain ⟨o, rfl⟩ := hx
    simp -dsimp (disch := first | assumption | omega) only [↓Ag, Ac, Ah, Ai, eq_self, Nat.reduceEqDiff, ↓reduceIte]
    exact Am (M - (r + 1)) (by omega) (by simp; omega) ⟨r + 1, _, _, R ++ [o], rfl, by omega, by simp; omega, hk.next hf, rfl, rfl⟩
   ·simp only [if_neg hf] at hx
    subst hx
    simp -dsimp (disch := first | assumption | omega) only [↓Ag, Ac, Ah, Ai, eq_self, Nat.reduceEqDiff, ↓reduceIte]
    exact Am (M - (r + 1)) (by omega) (by simp; omega) ⟨r + 1, _, _, R, rfl, by omega, hR, hk.skip hf, rfl, rfl⟩
  ·have hrM : r = M := by omega
   subst hrM
   simp -dsimp (disch := first | assumption | omega) only [↓Ag, Ac, Ah, Ai, eq_self, Nat.reduceEqDiff, ↓reduceIte, ↓AL]
   exact h _ _ _ _ _ _ hk
theorem Axa (b : List UInt8) (hb : b.length ≤ 1000000) : D5 Tryd.prog 42 [slB b] (fun x => x = .sl 2 ((ApI b (b.length + 1) 0).map tkT)) := by
 generalize hT : ApI b (b.length + 1) 0 = T
 refine Ap.toPureV (AfD (by simp) ?_)
 simp -dsimp (disch := first | assumption | omega) only [↓Ag, Ac, Ah, Ai, eq_self, Nat.reduceEqDiff, ↓reduceIte, Nat.reduceAdd, ↓AL]
 refine Bi (fun q e H => ∃ (i f v : Nat) (l : List (Nat × Nat)) (es : List (List UInt8 × TV)) (ah : List Nat), q = b.length - i ∧ i ≤ b.length ∧ b.length < f + i ∧ T = l ++ ApI b f i ∧ l.length ≤ i ∧ ApT b i es ah ∧ e = tkE v l.length i ∧ H = tkH b es ah v l) b.length ?_ ?_
 ·refine ⟨0, b.length + 1, 0, [], [], List.replicate b.length 0, by omega, by omega, by omega, hT.symm, by simp, ⟨fun y => rfl, fun g => rfl, by simp, fun q hq => by omega⟩, rfl, ?_⟩
  simp [ApJ, List.map_replicate]
 ·rintro q e H ⟨i, f, v, l, es, ah, hq, hi, hf, hl, hll, hk, rfl, rfl⟩
  by_cases h1 : i < b.length
  ·obtain ⟨g1, g2, g3⟩ := At8 h1
   obtain ⟨f, rfl⟩ : ∃ f', f = f' + 1 := ⟨f - 1, by omega⟩
   rw [ApI, if_pos h1] at hl
   have happ : ∀ t : Nat × Nat, l.map tkT ++ [tkT t] = (l ++ [t]).map tkT := fun t => by simp
   have hlen : l.length + 1 = (l ++ [FY b i]).length := by simp
   by_cases h2 : i + 3 ≤ b.length
   ·have hcp : (Ac6 (List.take 3 (List.drop i b)) es).getD (i64 ((0 : Nat) : Int)) = i64 ((OC b (Agy b i) i : Nat) : Int) := hk.cnt (Agy b i)
    have hgl : (List.take 3 (List.drop i b)).length = 3 := An2 h2
    simp -dsimp (disch := first | assumption | omega) only [↓Ag, Ac, Ah, Ai, eq_self, Nat.reduceLT, Nat.reduceEqDiff, ↓reduceIte, Nat.reduceAdd, ↓AL, hcp]
    refine Axg hb h2 hk fun y z w => ?_
    by_cases hm : (FY b i).1 < 1
    ·have hmx : max (FY b i).1 1 = 1 := by omega
     rw [hmx] at hl
     simp -dsimp (disch := first | assumption | omega) only [↓Ag, Ac, Ah, Ai, eq_self, Nat.reduceEqDiff, ↓reduceIte, Nat.reduceAdd, Nat.reduceLeDiff, ↓AL, DJ]
     rw [happ (FY b i), hlen]
     refine AnF (l := l ++ [FY b i]) (v := v + 1) (M := 1) (es := es) (ah := ah) hb (by omega) hk fun y z w es' ah' R' hk' => ?_
     simp -dsimp (disch := first | assumption | omega) only [↓Ag, Ai]
     refine VA (b.length - (i + 1)) 6 (by omega) (by simp) rfl (by simp [YF, AiH, Gm, hk'.bel _]) ⟨i + 1, f, v + 1, l ++ [FY b i], es', ah', rfl, by omega, by omega, by rw [hl, List.append_assoc]; rfl, by rw [← hlen]; omega, hk', by rw [hlen]; rfl, by rw [hlen]; rfl⟩
    ·have hmx : max (FY b i).1 1 = (FY b i).1 := by omega
     rw [hmx] at hl
     simp -dsimp (disch := first | assumption | omega) only [↓Ag, Ac, Ah, Ai, eq_self, Nat.reduceEqDiff, ↓reduceIte, Nat.reduceAdd, Nat.reduceLeDiff, ↓AL, DJ]
     rw [happ (FY b i), hlen]
     refine AnF (l := l ++ [FY b i]) (v := v + 1) (M := (FY b i).1) (es := es) (ah := ah) hb (by omega) hk fun y z w es' ah' R' hk' => ?_
     simp -dsimp (disch := first | assumption | omega) only [↓Ag, Ai]
     refine VA (b.length - (i + (FY b i).1)) 6 (by omega) (by simp) rfl (by simp [YF, AiH, Gm, hk'.bel _]) ⟨i + (FY b i).1, f, v + 1, l ++ [FY b i], es', ah', rfl, by omega, by omega, by rw [hl, List.append_assoc]; rfl, by rw [← hlen]; omega, hk', by rw [hlen]; rfl, by rw [hlen]; rfl⟩
   ·have hf3 : FY b i = (0, 0) := by rw [FY, if_neg h2]
    have hmx : max (FY b i).1 1 = 1 := by rw [hf3]; rfl
    rw [hmx, hf3] at hl
    rw [hf3] at hlen
    simp -dsimp (disch := first | assumption | omega) only [↓Ag, Ac, Ah, Ai, eq_self, Nat.reduceLT, Nat.reduceEqDiff, ↓reduceIte, Nat.reduceAdd, Nat.reduceLeDiff, ↓AL, DJ]
    rw [happ (0, 0), hlen]
    refine AnF (l := l ++ [(0, 0)]) (v := v + 1) (M := 1) (es := es) (ah := ah) hb (by omega) hk fun y z w es' ah' R' hk' => ?_
    simp -dsimp (disch := first | assumption | omega) only [↓Ag, Ai]
    refine VA (b.length - (i + 1)) 6 (by omega) (by simp) rfl (by simp [YF, AiH, Gm, hk'.bel _]) ⟨i + 1, f, v + 1, l ++ [(0, 0)], es', ah', rfl, by omega, by omega, by rw [hl, List.append_assoc]; rfl, by rw [← hlen]; omega, hk', by rw [hlen]; rfl, by rw [hlen]; rfl⟩
  ·obtain ⟨f, rfl⟩ : ∃ f', f = f' + 1 := ⟨f - 1, by omega⟩
   rw [ApI, if_neg h1, List.append_nil] at hl
   simp -dsimp (disch := first | assumption | omega) only [↓Ag, Ac, Ah, Ai, eq_self, Nat.reduceEqDiff, ↓reduceIte, ↓AL]
   rw [hl]
end Go.Proofs.YtfgljddikcghhaaDoor


namespace Go.Proofs.YtfgljddikcghhaaDoor
open Go.RowKit
variable [AO]
set_option linter.unusedSectionVars false
set_option linter.unusedVariables false

section
omit [AO]
/-- What code keeps in mind: bits, the next one, how many are used, the longest, the space taken. -/
structure CSt where
 bs : List Nat
 nx : Nat
 us : Nat
 lg : Nat
 sp : Nat
/-- One symbol, at the length n. -/
def CSt.one (ls : List Nat) (n i : Nat) (s : CSt) : CSt := if ls[i]? = some n then ⟨s.bs.set i s.nx, s.nx + 1, s.us + 1, n, s.sp + 2 ^ (15 - n)⟩ else s
/-- The first i symbols, at the length n. -/
def CSt.row (ls : List Nat) (n : Nat) : Nat → CSt → CSt
 | 0, s => s
 | i + 1, s => CSt.one ls n i (CSt.row ls n i s)
/-- The lengths up to n. -/
def CSt.all (ls : List Nat) : Nat → CSt
 | 0 => ⟨List.replicate ls.length 0, 0, 0, 0, 0⟩
 | n + 1 => CSt.row ls (n + 1) ls.length { CSt.all ls n with nx := (CSt.all ls n).nx * 2 }
theorem CSt.one_len (ls : List Nat) (n i : Nat) (s : CSt) : (s.one ls n i).bs.length = s.bs.length := by unfold CSt.one; split <;> simp
theorem CSt.row_len (ls : List Nat) (n : Nat) : ∀ (i : Nat) (s : CSt), (s.row ls n i).bs.length = s.bs.length
 | 0, s => rfl
 | i + 1, s => by rw [CSt.row, CSt.one_len, CSt.row_len ls n i s]
theorem CSt.all_len (ls : List Nat) : ∀ n, (CSt.all ls n).bs.length = ls.length
 | 0 => by simp [CSt.all]
 | n + 1 => by rw [CSt.all, CSt.row_len]; exact CSt.all_len ls n
/-- How great they may be. -/
def CSt.ok (s : CSt) (a b c : Nat) : Prop := s.nx ≤ a ∧ s.us ≤ b ∧ s.sp ≤ c
set_option maxRecDepth 100000 in
theorem CSt.row_ok (ls : List Nat) (n : Nat) : ∀ (i : Nat) (s : CSt) (a b c : Nat), s.ok a b c → (s.row ls n i).ok (a + i) (b + i) (c + i * 32768)
 | 0, s, a, b, c, h => by simpa [CSt.row] using h
 | i + 1, s, a, b, c, h => by
  obtain ⟨h1, h2, h3⟩ := CSt.row_ok ls n i s a b c h
  have hp : 2 ^ (15 - n) ≤ 32768 := Nat.le_trans (Nat.pow_le_pow_right (by omega) (by omega : 15 - n ≤ 15)) (by decide)
  rw [CSt.row]
  unfold CSt.one
  generalize CSt.row ls n i s = t at *
  split
  ·refine ⟨?_, ?_, ?_⟩
   ·show t.nx + 1 ≤ _; omega
   ·show t.us + 1 ≤ _; omega
   ·show t.sp + 2 ^ (15 - n) ≤ _; omega
  ·exact ⟨by omega, by omega, by omega⟩
set_option maxRecDepth 100000 in
theorem CSt.all_ok (ls : List Nat) (hl : ls.length ≤ 1000) : ∀ n, (CSt.all ls n).ok (1000 * (2 ^ n - 1)) (1000 * n) (32768000 * n)
 | 0 => ⟨by simp [CSt.all], by simp [CSt.all], by simp [CSt.all]⟩
 | n + 1 => by
  obtain ⟨h1, h2, h3⟩ := CSt.all_ok ls hl n
  have hp : 1 ≤ 2 ^ n := Nat.one_le_two_pow
  have h := CSt.row_ok ls (n + 1) ls.length { CSt.all ls n with nx := (CSt.all ls n).nx * 2 } (2000 * (2 ^ n - 1)) (1000 * n) (32768000 * n) ⟨by show _ * 2 ≤ _; omega, h2, h3⟩
  obtain ⟨k1, k2, k3⟩ := h
  rw [CSt.all]
  refine ⟨Nat.le_trans k1 ?_, Nat.le_trans k2 (by omega), Nat.le_trans k3 (by omega)⟩
  rw [Nat.pow_succ]; omega
end
end Go.Proofs.YtfgljddikcghhaaDoor


namespace Go.Proofs.YtfgljddikcghhaaDoor
open Go.RowKit
variable [AO]
set_option linter.unusedSectionVars false
set_option linter.unusedVariables false
set_option linter.unusedSimpArgs false

def okC (ls : List Nat) (few non : Bool) : Bool := decide ((CSt.all ls 15).sp = 32768) || (few && decide ((CSt.all ls 15).us = 1) && decide ((CSt.all ls 15).lg = 1) || non && decide ((CSt.all ls 15).us = 0))
abbrev nsO (v : Nat) (l : List Nat) : Ob := .obj v (.arr l.length 1 (l.map fun (n : Nat) => i64 (n : Int)))
theorem Al2 (ls : List Nat) (few non : Bool) (hl : ls.length ≤ 1000) : D5 Tryd.prog 54 [Cc ls, tb few, tb non] (fun x => x = .tup [.agg [Cc ls, Cc (CSt.all ls 15).bs], tb (okC ls few non)]) := by
 refine Ap.toPureV (Alr (by simp) ?_)
 simp -dsimp (disch := first | assumption | omega) only [↓Ag, Ac, Ah, Ai, eq_self, Nat.reduceEqDiff, ↓reduceIte, Nat.reduceAdd, reduceCtorEq, ↓CE]
 refine Bi (fun q e H => ∃ i v, q = ls.length - i ∧ i ≤ ls.length ∧ e = [(0, Cc ls), (1, tb few), (2, tb non), (6, .op 0 0 []), (8, .op 1 0 []), (9, i64 ((0 : Nat) : Int)), (10, i64 ((0 : Nat) : Int)), (11, i64 ((0 : Nat) : Int)), (12, i64 (i : Int))] ∧
  H = [.obj 0 (.agg [.val (.slice none 0 0), .val (.slice none 0 0)]), .obj 0 (.agg [Cc ls, .os 1 2 v [] 0 i i]), .obj v (.arr i 1 (List.replicate i (i64 ((0 : Nat) : Int))))]) ls.length ?_ ?_
 ·exact ⟨0, 0, rfl, by omega, rfl, rfl⟩
 ·rintro q e H ⟨i, v, rfl, hi, rfl, rfl⟩
  by_cases hlt : i < ls.length
  ·simp -dsimp (disch := first | assumption | omega) only [↓Ag, Ac, Ah, Ai, eq_self, Nat.reduceEqDiff, ↓reduceIte, Nat.reduceAdd, reduceCtorEq, Nat.reduceLeDiff, ↓CE, DJ]
   exact VA (ls.length - (i + 1)) 3 (by omega) (by simp) rfl rfl ⟨i + 1, v + 1, rfl, by omega, rfl, by rw [List.replicate_succ']; simp⟩
  ·have hie : i = ls.length := by omega
   subst hie
   simp -dsimp (disch := first | assumption | omega) only [↓Ag, Ac, Ah, Ai, eq_self, Nat.reduceEqDiff, ↓reduceIte, reduceCtorEq, ↓CE]
   refine Bi (fun q e H => ∃ n, q = 15 - n ∧ n ≤ 15 ∧ e = [(0, Cc ls), (1, tb few), (2, tb non), (6, .op 0 0 []), (8, .op 1 0 []), (9, i64 ((CSt.all ls n).nx : Int)), (10, i64 ((CSt.all ls n).us : Int)), (11, i64 ((CSt.all ls n).lg : Int)), (13, i64 ((CSt.all ls n).sp : Int)), (14, i64 ((n + 1 : Nat) : Int))] ∧
    H = [.obj 0 (.agg [.val (.slice none 0 0), .val (.slice none 0 0)]), .obj 0 (.agg [Cc ls, .os 1 2 v [] 0 ls.length ls.length]), .obj v (.arr ls.length 1 ((CSt.all ls n).bs.map fun (n : Nat) => i64 (n : Int)))]) 15 ?_ ?_
   ·exact ⟨0, rfl, by omega, rfl, by simp [CSt.all]⟩
   ·rintro q e H ⟨n, rfl, hn, rfl, rfl⟩
    obtain ⟨o1, o2, o3⟩ := CSt.all_ok ls hl n
    have hp : 2 ^ n ≤ 32768 := Nat.le_trans (Nat.pow_le_pow_right (by omega) hn) (by decide)
    by_cases hn15 : n < 15
    ·simp -dsimp (disch := first | assumption | omega) only [↓Ag, Ac, Ah, Ai, eq_self, Nat.reduceEqDiff, ↓reduceIte, Nat.reduceAdd, reduceCtorEq, Nat.reduceLeDiff, ↓CE]
     obtain ⟨s, hs⟩ : ∃ s : CSt, s = { CSt.all ls n with nx := (CSt.all ls n).nx * 2 } := ⟨_, rfl⟩
     have hs0 : s.ok (2000 * (2 ^ n - 1)) (1000 * n) (32768000 * n) := by subst hs; exact ⟨by show _ * 2 ≤ _; omega, o2, o3⟩
     have hall : CSt.all ls (n + 1) = CSt.row ls (n + 1) ls.length s := by subst hs; rfl
     have hsl : s.bs.length = ls.length := by subst hs; exact CSt.all_len ls n
     refine Bi (fun q e H => ∃ i, q = ls.length - i ∧ i ≤ ls.length ∧ e = [(0, Cc ls), (1, tb few), (2, tb non), (6, .op 0 0 []), (8, .op 1 0 []), (9, i64 ((CSt.row ls (n + 1) i s).nx : Int)), (10, i64 ((CSt.row ls (n + 1) i s).us : Int)), (11, i64 ((CSt.row ls (n + 1) i s).lg : Int)), (13, i64 ((CSt.row ls (n + 1) i s).sp : Int)), (14, i64 ((n + 1 : Nat) : Int)), (15, i64 (i : Int))] ∧
      H = [.obj 0 (.agg [.val (.slice none 0 0), .val (.slice none 0 0)]), .obj 0 (.agg [Cc ls, .os 1 2 v [] 0 ls.length ls.length]), .obj v (.arr ls.length 1 ((CSt.row ls (n + 1) i s).bs.map fun (n : Nat) => i64 (n : Int)))]) ls.length ?_ ?_
     ·exact ⟨0, rfl, by omega, by subst hs; rfl, by subst hs; rfl⟩
     ·rintro q e H ⟨i, rfl, hi, rfl, rfl⟩
      obtain ⟨b1, b2, b3⟩ := CSt.row_ok ls (n + 1) i s _ _ _ hs0
      have hrl : (CSt.row ls (n + 1) i s).bs.length = ls.length := by rw [CSt.row_len, hsl]
      by_cases hlt : i < ls.length
      ·obtain ⟨a, ha⟩ : ∃ a, ls[i]? = some a := ⟨_, List.getElem?_eq_getElem hlt⟩
       by_cases hc : a = n + 1
       ·subst hc
        have hst : CSt.row ls (n + 1) (i + 1) s = ⟨(CSt.row ls (n + 1) i s).bs.set i (CSt.row ls (n + 1) i s).nx, (CSt.row ls (n + 1) i s).nx + 1, (CSt.row ls (n + 1) i s).us + 1, n + 1, (CSt.row ls (n + 1) i s).sp + 2 ^ (15 - (n + 1))⟩ := by rw [CSt.row, CSt.one, if_pos ha]
        have hp2 : 1 * 2 ^ (15 - (n + 1)) ≤ 32768 := by rw [Nat.one_mul]; exact Nat.le_trans (Nat.pow_le_pow_right (by omega) (by omega : 15 - (n + 1) ≤ 15)) (by decide)
        obtain ⟨y, hy⟩ : ∃ y, (CSt.row ls (n + 1) i s).bs[i]? = some y := ⟨_, List.getElem?_eq_getElem (by omega)⟩
        simp -dsimp (disch := first | assumption | omega) only [↓Ag, Ac, Ah, Ai, eq_self, Nat.reduceEqDiff, ↓reduceIte, Nat.reduceAdd, reduceCtorEq, ↓CE, ha, hy]
        exact Am (ls.length - (i + 1)) (by omega) (by simp) ⟨i + 1, rfl, by omega, by rw [hst, Nat.one_mul]; rfl, by rw [hst, List.map_set]⟩
       ·have hst : CSt.row ls (n + 1) (i + 1) s = CSt.row ls (n + 1) i s := by rw [CSt.row, CSt.one, if_neg (by rw [ha]; simpa using hc)]
        simp -dsimp (disch := first | assumption | omega) only [↓Ag, Ac, Ah, Ai, eq_self, Nat.reduceEqDiff, ↓reduceIte, Nat.reduceAdd, reduceCtorEq, ↓CE, ha]
        exact Am (ls.length - (i + 1)) (by omega) (by simp) ⟨i + 1, rfl, by omega, by rw [hst]; rfl, by rw [hst]⟩
      ·have hie : i = ls.length := by omega
       subst hie
       simp -dsimp (disch := first | assumption | omega) only [↓Ag, Ac, Ah, Ai, eq_self, Nat.reduceEqDiff, ↓reduceIte, reduceCtorEq, ↓CE]
       exact Am (15 - (n + 1)) (by omega) (by simp) ⟨n + 1, rfl, by omega, by rw [hall]; rfl, by rw [hall]⟩
    ·have hne : n = 15 := by omega
     subst hne
     have hal : (CSt.all ls 15).bs.length = ls.length := CSt.all_len ls 15
     have htk : (CSt.all ls 15).bs.take ls.length = (CSt.all ls 15).bs := List.take_of_length_le (by omega)
     have hle : ls.length ≤ (CSt.all ls 15).bs.length := by omega
     by_cases c1 : (CSt.all ls 15).sp = 32768
     ·simp -dsimp (disch := first | assumption | omega) only [↓Ag, Ac, Ah, Ai, eq_self, Nat.reduceEqDiff, ↓reduceIte, Nat.reduceAdd, reduceCtorEq, Nat.reduceLeDiff, ↓CE, hle]
      simp [okC, c1]
     ·by_cases c2 : (CSt.all ls 15).us = 0
      ·have c3 : ¬ (CSt.all ls 15).us = 1 := by omega
       cases few <;> cases non
       all_goals
        simp -dsimp (disch := first | assumption | omega) only [↓Ag, Ac, Ah, Ai, eq_self, Nat.reduceEqDiff, ↓reduceIte, Nat.reduceAdd, reduceCtorEq, Nat.reduceLeDiff, ↓CE, hle]
        simp [okC, c1, c2]
      ·by_cases c3 : (CSt.all ls 15).us = 1
       ·by_cases c4 : (CSt.all ls 15).lg = 1
        ·cases few <;> cases non
         all_goals
          simp -dsimp (disch := first | assumption | omega) only [↓Ag, Ac, Ah, Ai, eq_self, Nat.reduceEqDiff, ↓reduceIte, Nat.reduceAdd, reduceCtorEq, Nat.reduceLeDiff, ↓CE, hle]
          simp [okC, c1, c3, c4]
        ·cases few <;> cases non
         all_goals
          simp -dsimp (disch := first | assumption | omega) only [↓Ag, Ac, Ah, Ai, eq_self, Nat.reduceEqDiff, ↓reduceIte, Nat.reduceAdd, reduceCtorEq, Nat.reduceLeDiff, ↓CE, hle]
          simp [okC, c1, c3, c4]
       ·cases few <;> cases non
        all_goals
         simp -dsimp (disch := first | assumption | omega) only [↓Ag, Ac, Ah, Ai, eq_self, Nat.reduceEqDiff, ↓reduceIte, Nat.reduceAdd, reduceCtorEq, Nat.reduceLeDiff, ↓CE, hle]
         simp [okC, c1, c2, c3]
end Go.Proofs.YtfgljddikcghhaaDoor


namespace Go.Proofs.YtfgljddikcghhaaDoor
open Go.RowKit
variable [AO]
set_option linter.unusedSectionVars false
set_option linter.unusedVariables false
set_option linter.unusedSimpArgs false

section
omit [AO]
/-- The lowest i bits of v, as the highest of n. -/
def AkP (n v : Nat) : Nat → Nat
 | 0 => 0
 | i + 1 => AkP n v i ||| v / 2 ^ i % 2 * 2 ^ (n - 1 - i)
def AiO (ls bs : List Nat) : List Nat := List.zipWith (fun m v => AkP m v m) ls bs
theorem AiM (n : Nat) : ∀ i, AkP n 0 i = 0
 | 0 => rfl
 | i + 1 => by rw [AkP, AiM n i]; simp
theorem Akc (n v : Nat) : ∀ i, i ≤ n → AkP n v i < 2 ^ n
 | 0, _ => by rw [AkP]; exact Nat.two_pow_pos n
 | i + 1, h => by
  rw [AkP]
  refine Nat.or_lt_two_pow (Akc n v i (by omega)) ?_
  refine Nat.lt_of_le_of_lt (Nat.mul_le_mul_right _ (by omega : v / 2 ^ i % 2 ≤ 1)) ?_
  rw [Nat.one_mul]; exact Nat.pow_lt_pow_right (by omega) (by omega)
theorem Aoe (n v : Nat) : ∀ i j, i ≤ n → (AkP n v i).testBit j = (decide (n - i ≤ j ∧ j < n) && v.testBit (n - 1 - j))
 | 0, j, h => by
  rw [AkP, Nat.zero_testBit]
  have : ¬ (n - 0 ≤ j ∧ j < n) := by omega
  rw [decide_eq_false this, Bool.false_and]
 | i + 1, j, h => by
  rw [AkP, Nat.testBit_or, Aoe n v i j (by omega), Nat.testBit_mul_two_pow]
  by_cases e : j = n - 1 - i
  ·subst e
   have h1 : ¬ (n - i ≤ n - 1 - i ∧ n - 1 - i < n) := by omega
   have h2 : n - (i + 1) ≤ n - 1 - i ∧ n - 1 - i < n := by omega
   have h3 : n - 1 - (n - 1 - i) = i := by omega
   rw [decide_eq_false h1, decide_eq_true h2, h3, Bool.false_and, Bool.false_or, Bool.true_and, Nat.sub_self]
   simp only [Nat.le_refl, decide_true, Bool.true_and]
   rw [Nat.testBit_zero, Nat.mod_mod, Nat.testBit_eq_decide_div_mod_eq]
  ·have h1 : decide (n - i ≤ j ∧ j < n) = decide (n - (i + 1) ≤ j ∧ j < n) := by
    congr 1; apply propext; omega
   rw [h1]
   have h4 : (decide (n - 1 - i ≤ j) && (v / 2 ^ i % 2).testBit (j - (n - 1 - i))) = false := by
    by_cases h5 : n - 1 - i ≤ j
    ·rw [Nat.testBit_lt_two_pow (Nat.lt_of_lt_of_le (Nat.mod_lt _ (by omega)) (by
      have := Nat.pow_le_pow_right (n := 2) (i := 1) (j := j - (n - 1 - i)) (by omega) (by omega); omega)), Bool.and_false]
    ·rw [decide_eq_false h5, Bool.false_and]
   rw [h4, Bool.or_false]
/-- The bits, turned about. -/
theorem ArL (n v : Nat) : AV n (AkP n v n) = (AV n v).reverse := by
 apply List.ext_getElem?
 intro j
 by_cases hj : j < n
 ·rw [AhL n _ j hj, List.getElem?_reverse (by rw [AZ]; exact hj), AZ, AhL n v (n - 1 - j) (by omega)]
  have h1 := Aoe n v n j (Nat.le_refl n)
  rw [decide_eq_true (by omega : n - n ≤ j ∧ j < n), Bool.true_and, Nat.testBit_eq_decide_div_mod_eq, Nat.testBit_eq_decide_div_mod_eq] at h1
  congr 1
 ·rw [List.getElem?_eq_none (by rw [AZ]; omega), List.getElem?_eq_none (by rw [List.length_reverse, AZ]; omega)]
theorem An9 {ls bs : List Nat} (h : bs.length = ls.length) : (AiO ls bs).length = ls.length := by simp [AiO, h]
theorem AkJ {ls bs : List Nat} {i m v : Nat} (h1 : ls[i]? = some m) (h2 : bs[i]? = some v) : (AiO ls bs)[i]? = some (AkP m v m) := by
 simp [AiO, List.getElem?_zipWith, h1, h2]
theorem Aux {ls bs : List Nat} {i m v : Nat} (h1 : ls[i]? = some m) : (AiO ls bs).set i (AkP m v m) = AiO ls (bs.set i v) := by
 apply List.ext_getElem?
 intro j
 by_cases e : i = j
 ·subst e
  simp only [AiO, List.getElem?_set_self', List.getElem?_zipWith, h1]
  cases bs[i]? <;> simp
 ·simp [AiO, List.getElem?_set_ne e, List.getElem?_zipWith]
theorem Aqc {ls : List Nat} : AiO ls (List.replicate ls.length 0) = List.replicate ls.length 0 := by
 apply List.ext_getElem?
 intro j
 simp only [AiO, List.getElem?_zipWith, List.getElem?_replicate]
 by_cases h : j < ls.length
 ·simp [h, AiM]
 ·simp [h]
/-- What has no bits yet. -/
theorem CSt.row_zero {ls : List Nat} {n j m : Nat} (hj : ls[j]? = some m) : ∀ (i : Nat) (s : CSt), s.bs[j]? = some 0 → (m ≠ n ∨ i ≤ j) → (CSt.row ls n i s).bs[j]? = some 0
 | 0, s, h, _ => h
 | i + 1, s, h, hc => by
  rw [CSt.row, CSt.one]
  have ih := CSt.row_zero hj i s h (by rcases hc with h | h; exact .inl h; exact .inr (by omega))
  split
  ·rename_i hi
   have hne : i ≠ j := by
    rintro rfl
    rw [hj] at hi
    rcases hc with h | h
    ·exact h (Option.some.inj hi)
    ·omega
   show ((CSt.row ls n i s).bs.set i _)[j]? = some 0
   rw [List.getElem?_set_ne hne]; exact ih
  ·exact ih
theorem CSt.all_zero {ls : List Nat} {j m : Nat} (hj : ls[j]? = some m) : ∀ n, n < m → (CSt.all ls n).bs[j]? = some 0
 | 0, _ => by
  have : j < ls.length := (List.getElem?_eq_some_iff.1 hj).1
  simp [CSt.all, this]
 | n + 1, h => by
  rw [CSt.all]
  exact CSt.row_zero hj _ _ (CSt.all_zero hj n (by omega)) (.inl (by omega))
end
theorem Awo (ls : List Nat) (hl : ls.length ≤ 1000) : D5 Tryd.prog 40 [Cc ls] (fun x => x = Cc (AiO ls (CSt.all ls 15).bs)) := by
 refine Ap.toPureV (AhK (by simp) ?_)
 simp -dsimp (disch := first | assumption | omega) only [↓Ag, Ac, Ah, Ai, eq_self, Nat.reduceEqDiff, ↓reduceIte, reduceCtorEq, ↓Cj]
 refine Bi (fun q e H => ∃ n, q = 15 - n ∧ n ≤ 15 ∧ e = [(0, Cc ls), (3, .os 1 0 0 [] 0 ls.length ls.length), (4, i64 ((CSt.all ls n).nx : Int)), (5, i64 ((n + 1 : Nat) : Int))] ∧
  H = [.obj 0 (.arr ls.length 1 (ApJ (AiO ls (CSt.all ls n).bs)))]) 15 ?_ ?_
 ·exact ⟨0, rfl, by omega, rfl, by rw [CSt.all, Aqc]; simp [ApJ]⟩
 ·rintro q e H ⟨n, hq, hn, rfl, rfl⟩
  obtain ⟨o1, o2, o3⟩ := CSt.all_ok ls hl n
  have hp : 2 ^ n ≤ 32768 := Nat.le_trans (Nat.pow_le_pow_right (by omega) hn) (by decide)
  by_cases hn15 : n < 15
  ·simp -dsimp (disch := first | assumption | omega) only [↓Ag, Ac, Ah, Ai, eq_self, Nat.reduceEqDiff, Nat.reducePow, ↓reduceIte, reduceCtorEq, ↓Cj]
   obtain ⟨s, hs⟩ : ∃ s : CSt, s = { CSt.all ls n with nx := (CSt.all ls n).nx * 2 } := ⟨_, rfl⟩
   have hs0 : s.ok (2000 * (2 ^ n - 1)) (1000 * n) (32768000 * n) := by subst hs; exact ⟨by show _ * 2 ≤ _; omega, o2, o3⟩
   have hall : CSt.all ls (n + 1) = CSt.row ls (n + 1) ls.length s := by subst hs; rfl
   have hsl : s.bs.length = ls.length := by subst hs; exact CSt.all_len ls n
   refine Bi (fun q e H => ∃ i, q = ls.length - i ∧ i ≤ ls.length ∧ e = [(0, Cc ls), (3, .os 1 0 0 [] 0 ls.length ls.length), (4, i64 ((CSt.row ls (n + 1) i s).nx : Int)), (5, i64 ((n + 1 : Nat) : Int)), (18, Cc ls), (19, i64 (ls.length : Int)), (20, i64 (i : Int))] ∧
    H = [.obj 0 (.arr ls.length 1 (ApJ (AiO ls (CSt.row ls (n + 1) i s).bs)))]) ls.length ?_ ?_
   ·exact ⟨0, rfl, by omega, by subst hs; rfl, by subst hs; rfl⟩
   ·rintro q e H ⟨i, hq, hi, rfl, rfl⟩
    obtain ⟨b1, b2, b3⟩ := CSt.row_ok ls (n + 1) i s _ _ _ hs0
    have hrl : (CSt.row ls (n + 1) i s).bs.length = ls.length := by rw [CSt.row_len, hsl]
    by_cases hlt : i < ls.length
    ·obtain ⟨a, ha⟩ : ∃ a, ls[i]? = some a := ⟨_, List.getElem?_eq_getElem hlt⟩
     by_cases hc : a = n + 1
     ·subst hc
      have hst : CSt.row ls (n + 1) (i + 1) s = ⟨(CSt.row ls (n + 1) i s).bs.set i (CSt.row ls (n + 1) i s).nx, (CSt.row ls (n + 1) i s).nx + 1, (CSt.row ls (n + 1) i s).us + 1, n + 1, (CSt.row ls (n + 1) i s).sp + 2 ^ (15 - (n + 1))⟩ := by rw [CSt.row, CSt.one, if_pos ha]
      have hz : (CSt.row ls (n + 1) i s).bs[i]? = some 0 := CSt.row_zero ha i s (by subst hs; exact CSt.all_zero ha n (by omega)) (.inr (Nat.le_refl _))
      obtain ⟨c, hcd⟩ : ∃ c, c = (CSt.row ls (n + 1) i s).nx := ⟨_, rfl⟩
      obtain ⟨L, hL⟩ : ∃ L, L = AiO ls (CSt.row ls (n + 1) i s).bs := ⟨_, rfl⟩
      have hLl : L.length = ls.length := by rw [hL, An9 hrl]
      have hLi : L[i]? = some 0 := by rw [hL, AkJ ha hz, AiM]
      rw [← hcd] at hst b1
      rw [← hcd, ← hL]
      have hset : L.set i (AkP (n + 1) c (n + 1)) = AiO ls (CSt.row ls (n + 1) (i + 1) s).bs := by rw [hL, Aux ha, hst]
      simp -dsimp (disch := first | assumption | omega) only [↓Ag, Ac, Ah, Ai, eq_self, Nat.reduceEqDiff, ↓reduceIte, reduceCtorEq, ↓Cj, ha]
      refine Bi (fun q e H => ∃ k, q = n + 1 - k ∧ k ≤ n + 1 ∧ e = [(0, Cc ls), (3, .os 1 0 0 [] 0 ls.length ls.length), (4, i64 (c : Int)), (5, i64 ((n + 1 : Nat) : Int)), (6, i64 (i : Int)), (18, Cc ls), (19, i64 (ls.length : Int)), (20, i64 (i : Int)), (28, i64 ((n + 1 : Nat) : Int)), (29, i64 (k : Int))] ∧
       H = [.obj 0 (.arr ls.length 1 (ApJ (L.set i (AkP (n + 1) c k))))]) (n + 1) ?_ ?_
      ·exact ⟨0, rfl, by omega, rfl, by rw [AkP, Bv hLi]⟩
      ·rintro q e H ⟨k, hq, hk, rfl, rfl⟩
       have hb := Akc (n + 1) c k hk
       have hb2 : 2 ^ (n + 1) ≤ 32768 := Nat.le_trans (Nat.pow_le_pow_right (by omega) (by omega : n + 1 ≤ 15)) (by decide)
       by_cases hkn : k < n + 1
       ·have hLk : (L.set i (AkP (n + 1) c k))[i]? = some (AkP (n + 1) c k) := by rw [List.getElem?_set_self (by omega)]
        have hpk : c / 2 ^ k % 2 * 2 ^ (n - k) ≤ 1 * 2 ^ 15 := Nat.mul_le_mul (by omega) (Nat.pow_le_pow_right (by omega) (by omega))
        have hck : c / 2 ^ k ≤ c := Nat.div_le_self _ _
        simp -dsimp (disch := first | assumption | omega) only [↓Ag, Ac, Ah, Ai, eq_self, Nat.reduceEqDiff, ↓reduceIte, reduceCtorEq, ↓Cj, hLk, Awr]
        refine Am (n + 1 - (k + 1)) (by omega) (by simp) ⟨k + 1, rfl, by omega, rfl, ?_⟩
        rw [Aoc, List.set_set, AkP, Nat.add_sub_cancel]
       ·have hkn' : k = n + 1 := by omega
        subst hkn'
        simp -dsimp (disch := first | assumption | omega) only [↓Ag, Ac, Ah, Ai, eq_self, Nat.reduceEqDiff, ↓reduceIte, reduceCtorEq, ↓Cj]
        rw [hset]
        exact Am (ls.length - (i + 1)) (by omega) (by simp) ⟨i + 1, rfl, by omega, by rw [hst]; rfl, rfl⟩
     ·have hst : CSt.row ls (n + 1) (i + 1) s = CSt.row ls (n + 1) i s := by rw [CSt.row, CSt.one, if_neg (by rw [ha]; simpa using hc)]
      simp -dsimp (disch := first | assumption | omega) only [↓Ag, Ac, Ah, Ai, eq_self, Nat.reduceEqDiff, ↓reduceIte, reduceCtorEq, ↓Cj, ha]
      exact Am (ls.length - (i + 1)) (by omega) (by simp) ⟨i + 1, rfl, by omega, by rw [hst]; rfl, by rw [hst]⟩
    ·have hie : i = ls.length := by omega
     subst hie
     simp -dsimp (disch := first | assumption | omega) only [↓Ag, Ac, Ah, Ai, eq_self, Nat.reduceEqDiff, ↓reduceIte, reduceCtorEq, ↓Cj]
     exact Am (15 - (n + 1)) (by omega) (by simp) ⟨n + 1, rfl, by omega, by rw [hall]; rfl, by rw [hall]⟩
  ·have hne : n = 15 := by omega
   subst hne
   have h15 : (AiO ls (CSt.all ls 15).bs).length = ls.length := An9 (CSt.all_len ls 15)
   have htk : (AiO ls (CSt.all ls 15).bs).take ls.length = AiO ls (CSt.all ls 15).bs := List.take_of_length_le (by omega)
   simp -dsimp (disch := first | assumption | omega) only [↓Ag, Ac, Ah, Ai, eq_self, Nat.reduceLT, Nat.reduceEqDiff, ↓reduceIte, Nat.reduceAdd, reduceCtorEq, ↓Cj]
section
omit [AO]
/-- The symbol of a number: the last one that begins no later. -/
def WA (sp : Nat → Nat × Nat) (n frm : Nat) : Nat → Nat
 | 0 => frm
 | j + 1 => if (sp (frm + j)).1 ≤ n then frm + j else WA sp n frm j
theorem Ah2 {sp : Nat → Nat × Nat} {n frm : Nat} : ∀ {j : Nat}, 0 < j → frm ≤ WA sp n frm j ∧ WA sp n frm j < frm + j
 | 1, _ => by simp only [WA]; split <;> omega
 | j + 2, _ => by
  rw [WA]; split
  ·omega
  ·have := Ah2 (sp := sp) (n := n) (frm := frm) (j := j + 1) (by omega); omega
end
theorem AlQ (g : FuncId) (hg : AiC Tryd.prog g = true) (sp : Nat → Nat × Nat) (n frm m : Nat) (hn : n ≤ 100000) (hf : frm ≤ 1000) (hm : 0 < m) (hm2 : m ≤ 100) (hs : ∀ i, frm ≤ i → i < frm + m → D5 Tryd.prog g [i64 (i : Int)] (fun x => x = spn (sp i)) ∧ (sp i).1 ≤ 100000) :
  D5 Tryd.prog 43 [i64 (n : Int), i64 (frm : Int), i64 ((frm + m - 1 : Nat) : Int), .val (.func (.func g) #[] #[])] (fun x => x = .tup [i64 ((WA sp n frm m : Nat) : Int), spn (sp (WA sp n frm m))]) := by
 refine Ap.toPureV (AdA (by simp) ?_)
 simp -dsimp (disch := first | assumption | omega) only [↓Ag, Ac, Ah, Ai, eq_self, Nat.reduceEqDiff, ↓reduceIte, Nat.reduceAdd, reduceCtorEq, ↓EC]
 refine Bi (fun q e H => ∃ j, q = m - j ∧ j ≤ m ∧ e = [(0, i64 (n : Int)), (2, i64 ((frm + m - 1 : Nat) : Int)), (3, .val (.func (.func g) #[] #[])), (9, .op 0 0 []), (10, i64 ((WA sp n frm j : Nat) : Int)), (11, i64 ((frm + j : Nat) : Int))] ∧ H = [.obj 0 (spn (0, 0))]) m ?_ ?_
 ·exact ⟨0, rfl, by omega, rfl, rfl⟩
 ·rintro q e H ⟨j, hq, hj, rfl, rfl⟩
  by_cases h1 : j < m
  ·obtain ⟨hs1, hs2⟩ := hs (frm + j) (by omega) (by omega)
   simp -dsimp (disch := first | assumption | omega) only [↓Ag, Ac, Ah, Ai, eq_self, Nat.reduceEqDiff, ↓reduceIte, reduceCtorEq, ↓EC, hg]
   refine hs1.calls rfl ?_
   rintro _ rfl
   by_cases h2 : (sp (frm + j)).1 ≤ n
   ·simp -dsimp (disch := first | assumption | omega) only [↓Ag, Ac, Ah, Ai, eq_self, Nat.reduceEqDiff, ↓reduceIte, reduceCtorEq]
    exact Am (m - (j + 1)) (by omega) (by simp) ⟨j + 1, rfl, by omega, by rw [WA, if_pos h2]; rfl, rfl⟩
   ·simp -dsimp (disch := first | assumption | omega) only [↓Ag, Ac, Ah, Ai, eq_self, Nat.reduceEqDiff, ↓reduceIte, reduceCtorEq]
    exact Am (m - (j + 1)) (by omega) (by simp) ⟨j + 1, rfl, by omega, by rw [WA, if_neg h2]; rfl, rfl⟩
  ·have hjm : j = m := by omega
   subst hjm
   obtain ⟨g1, g2⟩ := Ah2 (sp := sp) (n := n) (frm := frm) hm
   simp -dsimp (disch := first | assumption | omega) only [↓Ag, Ac, Ah, Ai, eq_self, Nat.reduceEqDiff, ↓reduceIte, reduceCtorEq, ↓EC, hg]
   refine (hs _ g1 g2).1.calls rfl ?_
   rintro _ rfl
   simp -dsimp (disch := first | assumption | omega) only [↓Ag, Ac, Ah, Ai, eq_self, Nat.reduceEqDiff, ↓reduceIte, Nat.reduceAdd, reduceCtorEq, ↓EC]
end Go.Proofs.YtfgljddikcghhaaDoor


namespace Go.Proofs.YtfgljddikcghhaaDoor
open Go.RowKit
variable [AO]
set_option linter.unusedSectionVars false
set_option linter.unusedVariables false
set_option linter.unusedSimpArgs false

section
omit [AO]
/-- What stands ahead of a block's bytes. -/
def hdr (last : Bool) (n : Nat) : List UInt8 := [if last then 1 else 0, UInt8.ofNat n, UInt8.ofNat (n / 256), UInt8.ofNat (255 - n % 256), UInt8.ofNat (255 - n / 256 % 256)]
/-- The blocks. -/
def LP : Nat → Bool → List UInt8 → List UInt8
 | 0, _, _ => []
 | f + 1, first, b => if first = true ∨ 0 < b.length then hdr (decide (b.length ≤ 65535)) (min b.length 65535) ++ b.take (min b.length 65535) ++ LP f false (b.drop (min b.length 65535)) else []
theorem Ayf (w n : Nat) : (BitVec.ofInt w (-1) ^^^ BitVec.ofInt w (n : Int)).toNat = 2 ^ w - 1 - n % 2 ^ w := by
 have e1 : (BitVec.ofInt w (-1)) = BitVec.allOnes w := by
  apply BitVec.eq_of_toNat_eq
  rw [BitVec.toNat_ofInt, BitVec.toNat_allOnes]
  have hp : 1 ≤ 2 ^ w := Nat.one_le_two_pow
  have h1 : (-1 : Int) % ((2 ^ w : Nat) : Int) = ((2 ^ w - 1 : Nat) : Int) := by
   have : (-1 : Int) = ((2 ^ w - 1 : Nat) : Int) + ((2 ^ w : Nat) : Int) * (-1) := by omega
   rw [this, Int.add_mul_emod_self_left, Int.emod_eq_of_lt (by omega) (by omega)]
  rw [h1]; rfl
 rw [e1, BitVec.allOnes_xor, BitVec.toNat_not, BitVec.ofInt_natCast, BitVec.toNat_ofNat]
theorem AmG (k : IntKind) (x y : Int) : Op.intBits .xor k x y = pure (.int k (k.wrap ((BitVec.ofInt k.bits x ^^^ BitVec.ofInt k.bits y).toNat : Int))) := rfl
theorem Arn {n : Nat} (h : n ≤ 9223372036854775807) : unV .xor (.int .i64 (n : Int)) = some (.int .i64 (-(n : Int) - 1)) := by
 have e0 : Op.unary .xor (.int .i64 (n : Int)) = Op.intBits .xor .i64 (-1) (n : Int) := by
  simp [Op.unary, IntKind.signed]
 have hb : IntKind.i64.bits = 64 := rfl
 have key : IntKind.i64.wrap ((2 ^ 64 - 1 - n % 2 ^ 64 : Nat) : Int) = -(n : Int) - 1 := by rw [IntKind.wrap_i64]; omega
 unfold unV
 rw [e0, AmG, Ayf, hb, key]; rfl
theorem ArO {t : TypeId} {n : Nat} {k2 : IntKind} : D6 t .shr (.int .i64 (-(n : Int) - 1)) (.int k2 ((8 : Nat) : Int)) = some (.int .i64 ((-(n : Int) - 1) / 256)) := by
 have e : binOp .shr t (.int .i64 (-(n : Int) - 1)) (.int k2 ((8 : Nat) : Int)) = pure (.int .i64 ((-(n : Int) - 1) / 256)) := by
  show Op.shift .shr .i64 (-(n : Int) - 1) k2 ((8 : Nat) : Int) = _
  unfold Op.shift
  rw [if_neg (by omega)]
  show pure (Value.int IntKind.i64 ((-(n : Int) - 1).fdiv (2 ^ 8))) = _
  rw [Int.fdiv_eq_ediv_of_nonneg _ (by decide)]; rfl
 unfold D6
 rw [e]; rfl
theorem Aov {z a b c d e : TV} : (((((List.replicate 5 z).set 0 a).set 1 b).set 2 c).set 3 d).set 4 e = [a, b, c, d, e] := by simp [List.replicate]
theorem Awk (n : Nat) : IntKind.u8.wrap (-(n : Int) - 1) = ((UInt8.ofNat (255 - n % 256)).toNat : Int) := by
 rw [IntKind.wrap_u8, UInt8.toNat_ofNat']; omega
theorem Aqj (n : Nat) : IntKind.u8.wrap ((-(n : Int) - 1) / 256) = ((UInt8.ofNat (255 - n / 256 % 256)).toNat : Int) := by
 rw [IntKind.wrap_u8, UInt8.toNat_ofNat']; omega
end
theorem AvC {r l : List UInt8} {n v : Nat} {Q : VEx → Env → List Ob → Prop} (hn : n ≤ 65535) (hn2 : n ≤ r.length) (hl : l.length ≤ 10000000) (hr : r.length ≤ 1000000)
  (hQ : ∀ R, Q .nor [(0, slB (r.drop n)), (3, .os 1 0 (v + 2) [] 0 (l ++ (hdr (decide (n = r.length)) n ++ r.take n)).length (l ++ (hdr (decide (n = r.length)) n ++ r.take n)).length)] ([.obj (v + 2) (.arr (l ++ (hdr (decide (n = r.length)) n ++ r.take n)).length 1 ((l ++ (hdr (decide (n = r.length)) n ++ r.take n)).map by8))] ++ R)) :
  vwp Tryd.prog DR Q [(0, slB r), (3, .os 1 0 v [] 0 l.length l.length), (5, i64 (n : Int))] [.obj v (.arr l.length 1 (l.map by8))] := by
 have hlen : ∀ b, (l ++ (hdr b n ++ r.take n)).length = l.length + 5 + n := by intro b; simp [hdr]; omega
 by_cases hb : n = r.length
 ·rw [decide_eq_true hb, hlen] at hQ
  simp -dsimp (disch := first | assumption | omega | (simp only [Ae]; done) | (simp only [Ae]; omega)) only [↓Ag, Ac, Ah, Ai, eq_self, Nat.reduceEqDiff, Nat.reducePow, ↓reduceIte, Nat.reduceAdd, reduceCtorEq, Nat.reduceLeDiff, ↓Ht, Arn, ArO, Awk, Aqj, Aov]
  have e : (List.take (l.length + 5) (List.map by8 l ++ [TV.val (.int .u8 ((1 : Nat) : Int)), by8 (UInt8.ofNat n), by8 (UInt8.ofNat (n / 256)), by8 (UInt8.ofNat (255 - n % 256)), by8 (UInt8.ofNat (255 - n / 256 % 256))]) ++ List.map by8 r) = (l ++ (hdr true n ++ r.take n)).map by8 := by
   rw [List.take_of_length_le (by simp), hb, List.take_length]
   simp only [hdr, if_true, List.map_append, List.map_cons, List.append_assoc, List.cons_append, List.nil_append]; rfl
  have hq := hQ [Ob.obj 0 (TV.arr 5 1 [TV.val (.int .u8 ((1 : Nat) : Int)), by8 (UInt8.ofNat n), by8 (UInt8.ofNat (n / 256)), by8 (UInt8.ofNat (255 - n % 256)), by8 (UInt8.ofNat (255 - n / 256 % 256))])]
  rw [← e, hb] at hq
  rw [hb]; exact hq
 ·rw [decide_eq_false hb, hlen] at hQ
  simp -dsimp (disch := first | assumption | omega | (simp only [Ae]; done) | (simp only [Ae]; omega)) only [↓Ag, Ac, Ah, Ai, eq_self, Nat.reduceEqDiff, Nat.reducePow, ↓reduceIte, Nat.reduceAdd, reduceCtorEq, Nat.reduceLeDiff, ↓Ht, Arn, ArO, Awk, Aqj, Aov]
  have e : (List.take (l.length + 5) (List.map by8 l ++ [TV.val (.int .u8 ((0 : Nat) : Int)), by8 (UInt8.ofNat n), by8 (UInt8.ofNat (n / 256)), by8 (UInt8.ofNat (255 - n % 256)), by8 (UInt8.ofNat (255 - n / 256 % 256))]) ++ List.map by8 (r.take n)) = (l ++ (hdr false n ++ r.take n)).map by8 := by
   rw [List.take_of_length_le (by simp)]
   simp only [hdr, List.map_append, List.map_cons, List.append_assoc, List.cons_append, List.nil_append]; rfl
  have hq := hQ [Ob.obj 0 (TV.arr 5 1 [TV.val (.int .u8 ((0 : Nat) : Int)), by8 (UInt8.ofNat n), by8 (UInt8.ofNat (n / 256)), by8 (UInt8.ofNat (255 - n % 256)), by8 (UInt8.ofNat (255 - n / 256 % 256))])]
  rw [← e] at hq
  exact hq
theorem AwZ (b : List UInt8) (hb : b.length ≤ 1000000) : D5 Tryd.prog 22 [slB b] (fun x => x = slB (LP (b.length + 2) true b)) := by
 generalize hT : LP (b.length + 2) true b = T
 refine Ap.toPureV (AfV (by simp) ?_)
 simp -dsimp (disch := first | assumption | omega | (simp only [Ae]; done) | (simp only [Ae]; omega)) only [↓Ag, Ac, Ah, Ai, eq_self, Nat.reduceEqDiff, ↓reduceIte, reduceCtorEq, ↓Ht]
 refine Bi (fun q e H => ∃ (f v : Nat) (l r : List UInt8) (first : Bool), q = r.length + (if first then 1 else 0) ∧ r.length ≤ b.length ∧ r.length + (if first then 1 else 0) < f ∧ l.length + 6 * r.length + (if first then 6 else 0) ≤ 10000000 ∧ l ++ LP f first r = T ∧ e = [(0, slB r), (3, .os 1 0 v [] 0 l.length l.length), (4, tb first)] ∧ H = [.obj v (.arr l.length 1 (l.map by8))]) (b.length + 1) ?_ ?_
 ·exact ⟨b.length + 2, 0, [], b, true, rfl, Nat.le_refl _, by simp, by simp; omega, hT, rfl, rfl⟩
 ·rintro q e H ⟨f, v, l, r, first, hq, hr, hf, hl, hT, rfl, rfl⟩
  obtain ⟨f, rfl⟩ : ∃ f', f = f' + 1 := ⟨f - 1, by omega⟩
  rw [LP] at hT
  -- a round
  have round : (first = true ∨ 0 < r.length) → ∀ y, vwp Tryd.prog H9 (Rnd 1 [0, 3, 4] (Blk 0 (Thn Tryd.prog DY (Aia Hr fun x H' => BV (IQ H' (An3 H' 2) x) fun x => x = slB T)))
    (fun q e H => ∃ (f v : Nat) (l r : List UInt8) (first : Bool), q = r.length + (if first then 1 else 0) ∧ r.length ≤ b.length ∧ r.length + (if first then 1 else 0) < f ∧ l.length + 6 * r.length + (if first then 6 else 0) ≤ 10000000 ∧ l ++ LP f first r = T ∧ e = [(0, slB r), (3, .os 1 0 v [] 0 l.length l.length), (4, tb first)] ∧ H = [.obj v (.arr l.length 1 (l.map by8))]) q) [(0, slB r), (3, .os 1 0 v [] 0 l.length l.length), (12, y)] [.obj v (.arr l.length 1 (l.map by8))] := by
   intro hne y
   rw [if_pos hne] at hT
   have hdec : decide (r.length ≤ 65535) = decide (min r.length 65535 = r.length) := by congr 1; apply propext; omega
   rw [hdec] at hT
   have step : ∀ n : Nat, n = min r.length 65535 → vwp Tryd.prog DR (Blk 1 (Thn Tryd.prog (Af.ops [po_ 4 (POp.mov (Opd.c (Value.bool false)))] [0, 3, 4]) (Rnd 1 [0, 3, 4] (Blk 0 (Thn Tryd.prog DY (Aia Hr fun x H' => BV (IQ H' (An3 H' 2) x) fun x => x = slB T)))
    (fun q e H => ∃ (f v : Nat) (l r : List UInt8) (first : Bool), q = r.length + (if first then 1 else 0) ∧ r.length ≤ b.length ∧ r.length + (if first then 1 else 0) < f ∧ l.length + 6 * r.length + (if first then 6 else 0) ≤ 10000000 ∧ l ++ LP f first r = T ∧ e = [(0, slB r), (3, .os 1 0 v [] 0 l.length l.length), (4, tb first)] ∧ H = [.obj v (.arr l.length 1 (l.map by8))]) q)))
     [(0, slB r), (3, .os 1 0 v [] 0 l.length l.length), (5, i64 (n : Int))] [.obj v (.arr l.length 1 (l.map by8))] := by
    intro n hn
    have hpos : first = true ∨ 1 ≤ n := hne.imp id fun h => by omega
    rw [← hn] at hT
    have hnl : n ≤ r.length := by omega
    have hlen : ∀ b, (l ++ (hdr b n ++ r.take n)).length = l.length + 5 + n := by intro b; simp [hdr]; omega
    have hdl : (r.drop n).length = r.length - n := by simp
    have hLl := hlen (decide (n = r.length))
    have hLT : (l ++ (hdr (decide (n = r.length)) n ++ r.take n)) ++ LP f false (r.drop n) = T := by rw [← hT]; simp only [List.append_assoc]
    refine AvC (by omega) hnl (by omega) (by omega) fun R => ?_
    generalize l ++ (hdr (decide (n = r.length)) n ++ r.take n) = L at *
    simp -dsimp (disch := first | assumption | omega | (simp only [Ae]; done) | (simp only [Ae]; omega)) only [↓Ag, Ac, Ah, Ai, eq_self, Nat.reduceEqDiff, ↓reduceIte, reduceCtorEq]
    refine VA (r.length - n) 1 ?_ (by simp) rfl (by simp [YF, AiH, Gm]) ⟨f, v + 2, L, r.drop n, false, by rw [hdl]; simp, by omega, ?_, ?_, hLT, rfl, rfl⟩
    ·cases first <;> simp at hq hpos <;> omega
    ·rw [hdl]; cases first <;> simp at hf hpos ⊢ <;> omega
    ·rw [hdl, hLl]; cases first <;> simp at hl hpos ⊢ <;> omega
   by_cases hbig : r.length ≤ 65535
   ·have hmin : min r.length 65535 = r.length := by omega
    simp -dsimp (disch := first | assumption | omega | (simp only [Ae]; done) | (simp only [Ae]; omega)) only [↓Ag, Ac, Ah, Ai, eq_self, Nat.reduceEqDiff, ↓reduceIte, reduceCtorEq, ↓EW]
    exact step r.length hmin.symm
   ·have hmin : min r.length 65535 = 65535 := by omega
    simp -dsimp (disch := first | assumption | omega | (simp only [Ae]; done) | (simp only [Ae]; omega)) only [↓Ag, Ac, Ah, Ai, eq_self, Nat.reduceEqDiff, ↓reduceIte, reduceCtorEq, ↓EW]
    exact step 65535 hmin.symm
  cases first with
  | true =>
   simp -dsimp (disch := first | assumption | omega | (simp only [Ae]; done) | (simp only [Ae]; omega)) only [↓Ag, Ac, Ah, Ai, eq_self, Nat.reduceEqDiff, ↓reduceIte, reduceCtorEq, ↓E8]
   exact round (.inl rfl) _
  | false =>
   by_cases h0 : 0 < r.length
   ·simp -dsimp (disch := first | assumption | omega | (simp only [Ae]; done) | (simp only [Ae]; omega)) only [↓Ag, Ac, Ah, Ai, eq_self, Nat.reduceEqDiff, ↓reduceIte, reduceCtorEq, ↓E8]
    exact round (.inr h0) _
   ·rw [if_neg (fun h => h.elim (by simp) h0), List.append_nil] at hT
    simp -dsimp (disch := first | assumption | omega | (simp only [Ae]; done) | (simp only [Ae]; omega)) only [↓Ag, Ac, Ah, Ai, eq_self, Nat.reduceEqDiff, ↓reduceIte, reduceCtorEq, ↓Ht]
    rw [hT]
end Go.Proofs.YtfgljddikcghhaaDoor


namespace Go.Proofs.YtfgljddikcghhaaDoor
open Go.RowKit
variable [AO]
set_option linter.unusedSectionVars false
set_option linter.unusedVariables false
set_option linter.unusedSimpArgs false

theorem AvD (n : Nat) (hn : n ≤ 100000000) {H : List Ob} : Ap Tryd.prog 47 [.val (.slice none 0 0), i64 (n : Int)] H (fun x H' => (n = 0 ∧ x = .val (.slice none 0 0) ∧ H' = H) ∨ (0 < n ∧ x = .os 1 H.length 0 [] 0 0 n ∧ H' = H ++ [.obj 0 (.arr n 1 (List.replicate n (by8 0)))])) := by
 refine WB (by simp) ?_
 by_cases h0 : 0 < n
 ·simp -dsimp (disch := first | assumption | omega) only [↓Ag, Ac, Ah, Ai, eq_self, Nat.reduceEqDiff, ↓reduceIte, Nat.reduceAdd, reduceCtorEq, ↓Js]
  exact .inr ⟨h0, rfl⟩
 ·have h1 : n = 0 := by omega
  subst h1
  simp -dsimp (disch := first | assumption | omega) only [↓Ag, Ac, Ah, Ai, eq_self, Nat.reduceLT, Nat.reduceEqDiff, ↓reduceIte, Nat.reduceAdd, reduceCtorEq, ↓Js]
  exact .inl trivial
theorem Ayk (ls : List (List UInt8)) (hl : ls.length ≤ 1000) (hs : ls.flatten.length ≤ 100000000) {m w : Nat} {H : List Ob} (hm : H[m]? = some (.obj w (.arr ls.length 1 (ls.map slB)))) : Ap Tryd.prog 23 [.os 1 m w [] 0 ls.length ls.length] H (fun x H' => ∃ v cs N cp, x = .os 1 H.length v [] 0 ls.flatten.length cp ∧ H' = H ++ [.obj v (.arr N 1 cs)] ∧ cs.take ls.flatten.length = ls.flatten.map by8 ∧ ls.flatten.length ≤ cs.length) := by
 have hml : m < H.length := (List.getElem?_eq_some_iff.1 hm).1
 refine Tf (by simp) ?_
 have hsum : ∀ i, (ls.take i).flatten.length ≤ ls.flatten.length := fun i => by
  conv => rhs; rw [← List.take_append_drop i ls]
  rw [List.flatten_append, List.length_append]; omega
 have hsucc : ∀ i l, ls[i]? = some l → (ls.take (i + 1)).flatten = (ls.take i).flatten ++ l := fun i l h => by
  rw [List.take_add_one, h]; simp
 simp -dsimp (disch := first | assumption | omega) only [↓Ag, Ac, Ah, Ai, eq_self, Nat.reduceEqDiff, ↓reduceIte, reduceCtorEq, ↓Bf]
 refine Bi (fun q e H' => ∃ i, q = ls.length - i ∧ i ≤ ls.length ∧ e = [(0, .os 1 m w [] 0 ls.length ls.length), (3, i64 (((ls.take i).flatten.length : Nat) : Int)), (9, .os 1 m w [] 0 ls.length ls.length), (10, i64 (ls.length : Int)), (11, i64 (i : Int))] ∧ H' = H) ls.length ?_ ?_
 ·exact ⟨0, rfl, by omega, rfl, rfl⟩
 ·rintro q e H ⟨i, hq, hi, rfl, rfl⟩
  by_cases h1 : i < ls.length
  ·obtain ⟨l, hg⟩ : ∃ l, ls[i]? = some l := ⟨_, List.getElem?_eq_getElem h1⟩
   have e1 := hsucc i l hg
   have e2 := hsum (i + 1)
   have e3 : (ls.take (i + 1)).flatten.length = (ls.take i).flatten.length + l.length := by rw [e1, List.length_append]
   generalize (ls.take i).flatten.length = a at *
   simp -dsimp (disch := first | assumption | omega) only [↓Ag, Ac, Ah, Ai, eq_self, Nat.reduceEqDiff, ↓reduceIte, reduceCtorEq, ↓Bf, hg, hm]
   exact Am (ls.length - (i + 1)) (by omega) (by simp) ⟨i + 1, rfl, by omega, by rw [e3]; rfl, rfl⟩
  ·have hil : i = ls.length := by omega
   subst hil
   rw [List.take_length]
   simp -dsimp (disch := first | assumption | omega) only [↓Ag, Ac, Ah, Ai, eq_self, Nat.reduceEqDiff, ↓reduceIte, reduceCtorEq, ↓Bf]
   refine (AvD _ hs).mono fun x H' hx => ?_
   have fin : ∀ (v : Nat) (cs : List TV) (N cp : Nat), vwp Tryd.prog (.loop [6, 25, 26, 27] CO) (Blk 2 (Thn Tryd.prog CJ (Aia Dt fun x H'_1 => ∃ v cs N cp, x = .os 1 H.length v [] 0 ls.flatten.length cp ∧ H'_1 = H ++ [.obj v (.arr N 1 cs)] ∧ cs.take ls.flatten.length = ls.flatten.map by8 ∧ ls.flatten.length ≤ cs.length)))
     [(6, .os 1 H.length v [] 0 0 cp), (25, .os 1 m w [] 0 ls.length ls.length), (26, i64 (ls.length : Int)), (27, i64 ((0 : Nat) : Int))] (H ++ [.obj v (.arr N 1 cs)]) := by
    intro v cs N cp
    refine Bi (fun q e H' => ∃ i v cs N cp, q = ls.length - i ∧ i ≤ ls.length ∧ (ls.take i).flatten.length ≤ cs.length ∧ cs.take (ls.take i).flatten.length = (ls.take i).flatten.map by8 ∧ e = [(6, .os 1 H.length v [] 0 (ls.take i).flatten.length cp), (25, .os 1 m w [] 0 ls.length ls.length), (26, i64 (ls.length : Int)), (27, i64 (i : Int))] ∧ H' = H ++ [.obj v (.arr N 1 cs)]) ls.length ?_ ?_
    ·exact ⟨0, v, cs, N, cp, rfl, by omega, by simp, by simp, rfl, rfl⟩
    ·rintro q e H' ⟨i, v, cs, N, cp, hq, hi, hc1, hc2, rfl, rfl⟩
     by_cases h1 : i < ls.length
     ·obtain ⟨l, hg⟩ : ∃ l, ls[i]? = some l := ⟨_, List.getElem?_eq_getElem h1⟩
      have e1 := hsucc i l hg
      have e2 := hsum (i + 1)
      have e3 : (ls.take (i + 1)).flatten.length = (ls.take i).flatten.length + l.length := by rw [e1, List.length_append]
      obtain ⟨a, ha⟩ : ∃ a, a = (ls.take i).flatten := ⟨_, rfl⟩
      rw [← ha] at hc1 hc2 e1 e3
      rw [← ha]
      have hm' : (H ++ [Ob.obj v (.arr N 1 cs)])[m]? = some (.obj w (.arr ls.length 1 (ls.map slB))) := by rw [List.getElem?_append_left hml]; exact hm
      have htk : (a.map by8).take a.length = a.map by8 := List.take_of_length_le (by simp)
      simp -dsimp (disch := first | assumption | omega) only [↓Ag, Ac, Ah, Ai, eq_self, Nat.reduceEqDiff, ↓reduceIte, ↓Bf, hg, hc2, hm']
      exact Am (ls.length - (i + 1)) (by omega) (by simp) ⟨i + 1, v + 1, a.map by8 ++ l.map by8, a.length + l.length, a.length + l.length, rfl, by omega, by rw [e3]; simp, by rw [e3, e1, List.map_append]; exact List.take_of_length_le (by simp), by rw [e3]; rfl, rfl⟩
     ·have hil : i = ls.length := by omega
      subst hil
      rw [List.take_length] at hc1 hc2
      rw [List.take_length]
      simp -dsimp (disch := first | assumption | omega) only [↓Ag, Ac, Ah, Ai, eq_self, Nat.reduceEqDiff, ↓reduceIte, ↓Bf]
      exact ⟨v, cs, N, cp, rfl, rfl, hc2, hc1⟩
   rcases hx with ⟨h0, rfl, rfl⟩ | ⟨h0, rfl, rfl⟩
   ·simp -dsimp (disch := first | assumption | omega) only [↓Ag, Ac, Ah, Ai, eq_self, Nat.reduceEqDiff, ↓reduceIte, reduceCtorEq, ↓Bf]
    exact fin _ _ _ _
   ·simp -dsimp (disch := first | assumption | omega) only [↓Ag, Ac, Ah, Ai, eq_self, Nat.reduceEqDiff, ↓reduceIte, reduceCtorEq, ↓Bf]
    exact fin _ _ _ _
end Go.Proofs.YtfgljddikcghhaaDoor


namespace Go.Proofs.YtfgljddikcghhaaDoor
open Go.RowKit
variable [AO]
set_option linter.unusedSectionVars false
set_option linter.unusedVariables false
set_option linter.unusedSimpArgs false

/-- A place of a tree. -/
abbrev plc (p : Int × Int) : TV := .arr 2 1 [i64 p.1, i64 p.2]
/-- A tree that stays as it is. -/
abbrev Ael (T : List (Int × Int)) : TV := .sl 2 (T.map plc)
/-- All ways lead to places, or out. -/
def LG (T : List (Int × Int)) : Prop := ∀ p ∈ T, (-1000000 ≤ p.1 ∧ p.1 < T.length) ∧ (-1000000 ≤ p.2 ∧ p.2 < T.length)
/-- A symbol out of the bits: which, what is left. -/
def Zx (T : List (Int × Int)) : Nat → List Bool → Option (Nat × List Bool)
 | _, [] => none
 | a, b :: B => match T[a]? with
  | some p => let v := if b then p.2 else p.1
   if v < 0 then some ((-1 - v).toNat, B) else if v = 0 then none else Zx T v.toNat B
  | none => none
theorem Axu {id : Nat} {inn : List UInt8} {held count : Nat} {o m w : TV} {T : List (Int × Int)} {H : List Ob} (h : H[id]? = some (rdr inn held count o m w)) (hT : LG T) (hT0 : 0 < T.length) (hi : inn.length ≤ 1000000) (hc : count ≤ 7) (hh : held < 2 ^ count) :
  BR Tryd.prog 48 [.op id 0 [], Ael T] H
  (fun y H' => ∃ s inn' held' count', Zx T 0 (HY inn held count) = some (s, HY inn' held' count') ∧ y = i64 (s : Int) ∧ H' = H.set id (rdr inn' held' count' o m w) ∧ inn'.length ≤ inn.length ∧ count' ≤ 7 ∧ held' < 2 ^ count')
  (fun u H' => Zx T 0 (HY inn held count) = none ∧ u = AwI ∧ ∃ y, H' = H.set id (.obj 0 y)) := by
 have hl : id < H.length := (List.getElem?_eq_some_iff.1 h).1
 refine Xi (by simp) ?_
 simp -dsimp (disch := first | assumption | omega | (simp only [Ae]; done) | (simp only [Ae]; omega)) only [↓Ag, Ac, Ah, Ai, eq_self, Nat.reduceEqDiff, ↓reduceIte, Nat.reduceAdd, reduceCtorEq, ↓CG]
 refine Bi (fun q e H' => ∃ a inn1 held1 count1, q = (HY inn1 held1 count1).length ∧ a < T.length ∧ e = [(0, .op id 0 []), (1, Ael T), (5, i64 (a : Int))] ∧ H' = H.set id (rdr inn1 held1 count1 o m w) ∧ inn1.length ≤ inn.length ∧ count1 ≤ 7 ∧ held1 < 2 ^ count1 ∧ Zx T 0 (HY inn held count) = Zx T a (HY inn1 held1 count1)) (HY inn held count).length ?_ ?_
 ·exact ⟨0, inn, held, count, rfl, hT0, rfl, (Bv h).symm, Nat.le_refl _, hc, hh, rfl⟩
 ·rintro q e H' ⟨a, inn1, held1, count1, rfl, ha, rfl, rfl, k1, k2, k3, k4⟩
  have h' : (H.set id (rdr inn1 held1 count1 o m w))[id]? = some (rdr inn1 held1 count1 o m w) := by simp [hl]
  simp -dsimp (disch := first | assumption | omega | (simp only [Ae]; done) | (simp only [Ae]; omega)) only [↓Ag, Ac, Ah, Ai, eq_self, Nat.reduceEqDiff, ↓reduceIte, reduceCtorEq, ↓CG]
  refine (AzQ (n := 1) h' (by omega) (by omega) k2 k3).callsP ?_ ?_
  ·rintro y H' ⟨inn2, held2, count2, q1, rfl, rfl, q2, q3, q4, q5⟩
   obtain ⟨b, B, hB⟩ : ∃ b B, HY inn1 held1 count1 = b :: B := by
    cases hr : HY inn1 held1 count1 with
    | nil => rw [hr] at q1; simp at q1
    | cons b B => exact ⟨b, B, rfl⟩
   obtain ⟨p, hp, hpe⟩ : ∃ p, T[a]? = some p ∧ T[a] = p := ⟨_, List.getElem?_eq_getElem ha, rfl⟩
   rw [hB] at q5 ⊢
   rw [List.drop_succ_cons, List.drop_zero] at q5
   rw [List.set_set]
   have hTp : (T.map plc)[a]? = some (plc p) := by rw [List.getElem?_map, hp]; rfl
   cases b with
   | true =>
    have hv : C9 ([true] : List Bool) = 1 := rfl
    simp -dsimp (disch := first | assumption | omega | (simp only [Ae]; done) | (simp only [Ae]; omega)) only [↓Ag, Ac, Ah, Ai, eq_self, Nat.reduceEqDiff, ↓reduceIte, reduceCtorEq, hpe, hv]
    obtain ⟨g1, g2⟩ := (hT p (List.mem_of_getElem? hp)).2
    have hst : Zx T a (true :: B) = (if p.2 < 0 then some ((-1 - p.2).toNat, B) else if p.2 = 0 then none else Zx T p.2.toNat B) := by rw [Zx, hp]; rfl
    by_cases c1 : p.2 < 0
    ·rw [if_pos c1] at hst
     simp -dsimp (disch := first | assumption | omega | (simp only [Ae]; done) | (simp only [Ae]; omega)) only [↓Ag, Ac, Ah, Ai, eq_self, Nat.reduceEqDiff, ↓reduceIte, reduceCtorEq, ↓CG]
     exact ⟨(-1 - p.2).toNat, inn2, held2, count2, by rw [k4, hB, hst, q5], by rw [Int.toNat_of_nonneg (by omega)], rfl, by omega, q3, q4⟩
    rw [if_neg c1] at hst
    by_cases c2 : p.2 = 0
    ·rw [if_pos c2] at hst
     simp -dsimp (disch := first | assumption | omega | (simp only [Ae]; done) | (simp only [Ae]; omega)) only [↓Ag, Ac, Ah, Ai, eq_self, Nat.reduceEqDiff, ↓reduceIte, reduceCtorEq, c2]
     exact ⟨by rw [k4, hB, hst], rfl, _, rfl⟩
    rw [if_neg c2] at hst
    obtain ⟨n, hn⟩ : ∃ n : Nat, p.2 = (n : Int) := ⟨p.2.toNat, by omega⟩
    rw [hn] at hst g2 ⊢
    rw [Int.toNat_natCast] at hst
    simp -dsimp (disch := first | assumption | omega | (simp only [Ae]; done) | (simp only [Ae]; omega)) only [↓Ag, Ac, Ah, Ai, eq_self, Nat.reduceEqDiff, ↓reduceIte, reduceCtorEq]
    exact Am (HY inn2 held2 count2).length (by rw [q5]; omega) (by simp) ⟨n, inn2, held2, count2, rfl, by omega, rfl, rfl, by omega, q3, q4, by rw [k4, hB, hst, q5]⟩
   | false =>
    have hv : C9 ([false] : List Bool) = 0 := rfl
    simp -dsimp (disch := first | assumption | omega | (simp only [Ae]; done) | (simp only [Ae]; omega)) only [↓Ag, Ac, Ah, Ai, eq_self, Nat.reduceEqDiff, ↓reduceIte, reduceCtorEq, hpe, hv]
    obtain ⟨g1, g2⟩ := (hT p (List.mem_of_getElem? hp)).1
    have hst : Zx T a (false :: B) = (if p.1 < 0 then some ((-1 - p.1).toNat, B) else if p.1 = 0 then none else Zx T p.1.toNat B) := by rw [Zx, hp]; rfl
    by_cases c1 : p.1 < 0
    ·rw [if_pos c1] at hst
     simp -dsimp (disch := first | assumption | omega | (simp only [Ae]; done) | (simp only [Ae]; omega)) only [↓Ag, Ac, Ah, Ai, eq_self, Nat.reduceEqDiff, ↓reduceIte, reduceCtorEq, ↓CG]
     exact ⟨(-1 - p.1).toNat, inn2, held2, count2, by rw [k4, hB, hst, q5], by rw [Int.toNat_of_nonneg (by omega)], rfl, by omega, q3, q4⟩
    rw [if_neg c1] at hst
    by_cases c2 : p.1 = 0
    ·rw [if_pos c2] at hst
     simp -dsimp (disch := first | assumption | omega | (simp only [Ae]; done) | (simp only [Ae]; omega)) only [↓Ag, Ac, Ah, Ai, eq_self, Nat.reduceEqDiff, ↓reduceIte, reduceCtorEq, c2]
     exact ⟨by rw [k4, hB, hst], rfl, _, rfl⟩
    rw [if_neg c2] at hst
    obtain ⟨n, hn⟩ : ∃ n : Nat, p.1 = (n : Int) := ⟨p.1.toNat, by omega⟩
    rw [hn] at hst g2 ⊢
    rw [Int.toNat_natCast] at hst
    simp -dsimp (disch := first | assumption | omega | (simp only [Ae]; done) | (simp only [Ae]; omega)) only [↓Ag, Ac, Ah, Ai, eq_self, Nat.reduceEqDiff, ↓reduceIte, reduceCtorEq]
    exact Am (HY inn2 held2 count2).length (by rw [q5]; omega) (by simp) ⟨n, inn2, held2, count2, rfl, by omega, rfl, rfl, by omega, q3, q4, by rw [k4, hB, hst, q5]⟩
  ·rintro u H' ⟨q1, rfl, y, rfl⟩
   have hB : HY inn1 held1 count1 = [] := List.length_eq_zero_iff.1 (by omega)
   simp -dsimp (disch := first | assumption | omega | (simp only [Ae]; done) | (simp only [Ae]; omega)) only [Ai, eq_self]
   exact ⟨by rw [k4, hB, Zx], _, rfl⟩
end Go.Proofs.YtfgljddikcghhaaDoor

