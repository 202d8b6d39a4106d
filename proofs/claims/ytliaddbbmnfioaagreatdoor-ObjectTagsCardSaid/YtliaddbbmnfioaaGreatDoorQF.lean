/- What the proof of ObjectTagsCard stands on (texts merged; names shortened by a program): part 6. -/
import Derived.Test.YtliaddbbmnfioaaGreatDoorQE
import Derived.Test.YtliaddbbmnfioaaGreatDoorQD
import Derived.Test.YtliaddbbmnfioaaGreatDoorProg
import Derived.KernelRfl
import Derived.Shelf.Strings.SlTrimAscii
import Derived.Laws.RangeAny
import Derived.Lib.TrimU
import Derived.WalkKit
import Derived.Lib.Builder
import Derived.Lib.UnsafeStr
import Derived.Laws.Externs
import Derived.Shelf.RegionOpenPlain
import Derived.Shelf.Lay
import Derived.Lib.Bytealg
import Derived.LaidEql
import Derived.Stop.Asserts
import Derived.RowKitTokens
namespace Go.Proofs.YtliaddbbmnfioaaGreatDoor
variable [AFG]
set_option linter.unusedSectionVars false
set_option linter.unusedVariables false
set_option linter.defProp false
set_option maxRecDepth 100000

def AMK : AFb := .seq (.ops [po_ 4 (.mov (.c (.bool false)))] [0, 1])
 (.seq (.ops [mv_ 5 0,
  mv_ 6 1,
  so_ 7 (.call 125 [.t 5, .t 6]),
  po_ 8 (.bin 3 .geq (.t 7) (ci_ 0)),
  mv_ 4 8] [4])
 (.ret))
def AMB : List VR := [.tmp 4]
theorem AUe : Tryz.f90.body.bind (trC Tryz.prog Tryz.f90.ntmps) = some (er AMK) := by kernel_rfl
theorem AUp : trR Tryz.prog Tryz.f90.results.toList = some AMB := by kernel_rfl
def ATj := AE7 AMK.eq_1
theorem AS9 {K : TV → Prop} {e : Env} {H : List Ob} : res AMB e H K = res [.tmp 4] e H K := AE9 rfl
def AM9 := (And.intro @ATj @AS9)
def ATU := AGG 9 Tryz.func90 AUe AUp rfl

def AME : AFb := .seq (.ops [mv_ 16 1,
  po_ 17 (.idxS (.t 16) (ci_ 0)),
  po_ 18 (.conv .i32 (.t 17)),
  mv_ 5 18] [0, 5])
 (.seq (.seq (.ops [mv_ 19 5,
  po_ 20 (.bin 21 .geq (.t 19) (.c (.int .i32 ((128 : Nat) : Int))))] [0, 5, 20])
 (.cond (.t 20)
 (.ops [po_ 5 (.mov (.c (.int .i32 ((65533 : Nat) : Int))))] [0, 5])
 (.skip)))
 (.seq (.ops [mv_ 21 0,
  mv_ 22 5,
  so_ 23 (.call 157 [.t 21, .t 22]),
  mv_ 4 23] [4])
 (.ret)))
def AMA : AFb := .seq (.seq (.ops [mv_ 33 8,
  mv_ 34 0,
  po_ 35 (.lenS (.t 34)),
  po_ 36 (.bin 3 .lss (.t 33) (.t 35))] [0, 6, 8, 36])
 (.cond (.t 36)
 (.skip)
 (.exit 0)))
 (.seq (.block 1 (.seq (.ops [mv_ 39 0,
  mv_ 40 8,
  po_ 41 (.idxS (.t 39) (.t 40)),
  so_ 42 (.call 130 [.t 6, .t 41])] [0, 6, 8, 42])
 (.cond (.t 42)
 (.seq (.ops [mv_ 43 8,
   mv_ 4 43] [4])
  (.ret))
 (.skip))))
 (.ops [mv_ 37 8,
  po_ 38 (.bin 3 .add (.t 37) (ci_ 1)),
  mv_ 8 38] [0, 6, 8]))
def AMH : AFb := .block 0 (.loop [0, 6, 8] AMA)
def AML : AFb := .seq (.ops [po_ 4 (.mov (.c (.int .i64 (-1))))] [4])
 (.ret)
def ANe : AFb := .seq (.seq (.ops [po_ 8 (.mov (ci_ 0))] [0, 6, 8])
 AMH)
 AML
def AM1 : AFb := .cond (.t 32)
 ANe
 (.skip)
def AM7 : AFb := .seq (.ops [mv_ 32 7] [0, 1, 6, 32])
 AM1
def AM6 : AFb := .seq (.ops [mv_ 28 1,
  so_ 29 (.call 95 [.t 28]),
  mv_ 27 29,
  po_ 30 (.ext 0 (.t 27)),
  po_ 31 (.ext 1 (.t 27)),
  so_ 6 (.alloc (.arr 256 1 [.val (.bool false), .val (.bool false), .val (.bool false), .val (.bool false), .val (.bool false), .val (.bool false), .val (.bool false), .val (.bool false), .val (.bool false), .val (.bool false), .val (.bool false), .val (.bool false), .val (.bool false), .val (.bool false), .val (.bool false), .val (.bool false), .val (.bool false), .val (.bool false), .val (.bool false), .val (.bool false), .val (.bool false), .val (.bool false), .val (.bool false), .val (.bool false), .val (.bool false), .val (.bool false), .val (.bool false), .val (.bool false), .val (.bool false), .val (.bool false), .val (.bool false), .val (.bool false), .val (.bool false), .val (.bool false), .val (.bool false), .val (.bool false), .val (.bool false), .val (.bool false), .val (.bool false), .val (.bool false), .val (.bool false), .val (.bool false), .val (.bool false), .val (.bool false), .val (.bool false), .val (.bool false), .val (.bool false), .val (.bool false), .val (.bool false), .val (.bool false), .val (.bool false), .val (.bool false), .val (.bool false), .val (.bool false), .val (.bool false), .val (.bool false), .val (.bool false), .val (.bool false), .val (.bool false), .val (.bool false), .val (.bool false), .val (.bool false), .val (.bool false), .val (.bool false), .val (.bool false), .val (.bool false), .val (.bool false), .val (.bool false), .val (.bool false), .val (.bool false), .val (.bool false), .val (.bool false), .val (.bool false), .val (.bool false), .val (.bool false), .val (.bool false), .val (.bool false), .val (.bool false), .val (.bool false), .val (.bool false), .val (.bool false), .val (.bool false), .val (.bool false), .val (.bool false), .val (.bool false), .val (.bool false), .val (.bool false), .val (.bool false), .val (.bool false), .val (.bool false), .val (.bool false), .val (.bool false), .val (.bool false), .val (.bool false), .val (.bool false), .val (.bool false), .val (.bool false), .val (.bool false), .val (.bool false), .val (.bool false), .val (.bool false), .val (.bool false), .val (.bool false), .val (.bool false), .val (.bool false), .val (.bool false), .val (.bool false), .val (.bool false), .val (.bool false), .val (.bool false), .val (.bool false), .val (.bool false), .val (.bool false), .val (.bool false), .val (.bool false), .val (.bool false), .val (.bool false), .val (.bool false), .val (.bool false), .val (.bool false), .val (.bool false), .val (.bool false), .val (.bool false), .val (.bool false), .val (.bool false), .val (.bool false), .val (.bool false), .val (.bool false), .val (.bool false), .val (.bool false), .val (.bool false), .val (.bool false), .val (.bool false), .val (.bool false), .val (.bool false), .val (.bool false), .val (.bool false), .val (.bool false), .val (.bool false), .val (.bool false), .val (.bool false), .val (.bool false), .val (.bool false), .val (.bool false), .val (.bool false), .val (.bool false), .val (.bool false), .val (.bool false), .val (.bool false), .val (.bool false), .val (.bool false), .val (.bool false), .val (.bool false), .val (.bool false), .val (.bool false), .val (.bool false), .val (.bool false), .val (.bool false), .val (.bool false), .val (.bool false), .val (.bool false), .val (.bool false), .val (.bool false), .val (.bool false), .val (.bool false), .val (.bool false), .val (.bool false), .val (.bool false), .val (.bool false), .val (.bool false), .val (.bool false), .val (.bool false), .val (.bool false), .val (.bool false), .val (.bool false), .val (.bool false), .val (.bool false), .val (.bool false), .val (.bool false), .val (.bool false), .val (.bool false), .val (.bool false), .val (.bool false), .val (.bool false), .val (.bool false), .val (.bool false), .val (.bool false), .val (.bool false), .val (.bool false), .val (.bool false), .val (.bool false), .val (.bool false), .val (.bool false), .val (.bool false), .val (.bool false), .val (.bool false), .val (.bool false), .val (.bool false), .val (.bool false), .val (.bool false), .val (.bool false), .val (.bool false), .val (.bool false), .val (.bool false), .val (.bool false), .val (.bool false), .val (.bool false), .val (.bool false), .val (.bool false), .val (.bool false), .val (.bool false), .val (.bool false), .val (.bool false), .val (.bool false), .val (.bool false), .val (.bool false), .val (.bool false), .val (.bool false), .val (.bool false), .val (.bool false), .val (.bool false), .val (.bool false), .val (.bool false), .val (.bool false), .val (.bool false), .val (.bool false), .val (.bool false), .val (.bool false), .val (.bool false), .val (.bool false), .val (.bool false), .val (.bool false), .val (.bool false), .val (.bool false), .val (.bool false), .val (.bool false), .val (.bool false), .val (.bool false), .val (.bool false), .val (.bool false), .val (.bool false), .val (.bool false), .val (.bool false), .val (.bool false), .val (.bool false), .val (.bool false), .val (.bool false), .val (.bool false), .val (.bool false), .val (.bool false), .val (.bool false), .val (.bool false), .val (.bool false), .val (.bool false), .val (.bool false), .val (.bool false)])),
  ⟨none, .s (.store 256 (.t 6) (.t 30)), none⟩,
  mv_ 7 31] [0, 1, 6, 7])
 AM7
def AMQ : AFb := .cond (.t 26)
 AM6
 (.skip)
def ALO : AFb := .seq (.ops [so_ 46 (.nxtS (.t 45)),
  po_ 47 (.ext 0 (.t 46))] [1, 45, 46, 47])
 (.seq (.cond (.t 47)
 (.skip)
 (.exit 2))
 (.block 3 (.seq (.ops [po_ 48 (.ext 1 (.t 46)),
  po_ 49 (.ext 2 (.t 46)),
  mv_ 9 48,
  mv_ 10 49] [1, 9, 10, 45])
 (.seq (.ops [mv_ 50 1,
  mv_ 51 10,
  so_ 52 (.call 157 [.t 50, .t 51]),
  po_ 53 (.bin 3 .geq (.t 52) (ci_ 0))] [1, 9, 45, 53])
 (.cond (.t 53)
 (.seq (.ops [mv_ 54 9,
   mv_ 4 54] [4])
  (.ret))
 (.skip))))))
def ALI : AFb := .seq (.ops [po_ 4 (.mov (.c (.int .i64 (-1))))] [4])
 (.ret)
def ALj : AFb := .seq (.seq (.ops [mv_ 44 0,
  so_ 45 (.rngS (.t 44))] [1, 45])
 (.block 2 (.loop [1, 45] ALO)))
 ALI
def ALl : AFb := .seq (.seq (.ops [mv_ 24 0,
  po_ 25 (.lenS (.t 24)),
  so_ 26 (.call 158 [.t 25])] [0, 1, 26])
 AMQ)
 ALj
def ALQ : AFb := .seq (.seq (.ops [mv_ 13 1,
  po_ 14 (.lenS (.t 13)),
  po_ 15 (.bin 3 .eql (.t 14) (ci_ 1))] [0, 1, 15])
 (.cond (.t 15)
 AME
 (.skip)))
 ALl
def ALr : AFb := .seq (.seq (.ops [mv_ 11 1,
  po_ 12 (.bin 9 .eql (.t 11) (.c (.string (str []))))] [0, 1, 12])
 (.cond (.t 12)
 (.seq (.ops [po_ 4 (.mov (.c (.int .i64 (-1))))] [4])
  (.ret))
 (.skip)))
 ALQ
def APJ : AFb := .seq (.ops [po_ 4 (.mov (ci_ 0))] [0, 1])
 ALr
def AO4 : List VR := [.tmp 4]
theorem AY5 : Tryz.f125.body.bind (trC Tryz.prog Tryz.f125.ntmps) = some (er APJ) := by kernel_rfl
theorem AZf : trR Tryz.prog Tryz.f125.results.toList = some AO4 := by kernel_rfl
def ASV := AE7 AME.eq_1
def AS0 := AE7 AMA.eq_1
def ASQ := AE7 AMH.eq_1
def ATb := AE7 AML.eq_1
def ASZ := AE7 ANe.eq_1
def AS7 := AE7 AM1.eq_1
def ASL := AE7 AM7.eq_1
def ASU := AE7 AM6.eq_1
def ASY := AE7 AMQ.eq_1
def AQR := AE7 ALO.eq_1
def ARt := AE7 ALI.eq_1
def AQX := AE7 ALj.eq_1
def ASn := AE7 ALl.eq_1
def AQO := AE7 ALQ.eq_1
def ASb := AE7 ALr.eq_1
def AV7 := AE7 APJ.eq_1
theorem AV3 {K : TV → Prop} {e : Env} {H : List Ob} : res AO4 e H K = res [.tmp 4] e H K := AE9 rfl
def AGI := (And.intro (And.intro (And.intro (And.intro (And.intro @ASV @AS0) (And.intro @ASQ @ATb)) (And.intro (And.intro @ASZ @AS7) (And.intro @ASL @ASU))) (And.intro (And.intro (And.intro @ASY @AQR) (And.intro @ARt @AQX)) (And.intro (And.intro @ASn @AQO) (And.intro @ASb @AV7)))) @AV3)
def AYx := AGG 55 Tryz.func125 AY5 AZf rfl

def ALq : AFb := .seq (.ops [so_ 176 (.nxtS (.t 175)),
  po_ 177 (.ext 0 (.t 176))] [175, 176, 177])
 (.seq (.cond (.t 177)
 (.skip)
 (.exit 9))
 (.block 10 (.seq (.ops [po_ 178 (.ext 1 (.t 176)),
  po_ 179 (.ext 2 (.t 176)),
  mv_ 5 178,
  mv_ 6 179] [5, 6, 175])
 (.seq (.ops [mv_ 180 6,
  po_ 181 (.bin 21 .eql (.t 180) (.c (.int .i32 ((65533 : Nat) : Int))))] [5, 175, 181])
 (.cond (.t 181)
 (.seq (.ops [mv_ 182 5,
   mv_ 4 182] [4])
  (.ret))
 (.skip))))))
def ALs : AFb := .seq (.ops [po_ 4 (.mov (.c (.int .i64 (-1))))] [4])
 (.ret)
def ALG : AFb := .seq (.seq (.ops [mv_ 174 0,
  so_ 175 (.rngS (.t 174))] [175])
 (.block 9 (.loop [175] ALq)))
 ALs
def ALt : AFb := .seq (.draw 4 [mv_ 34 0,
  mv_ 35 9,
  po_ 36 (.bin 3 .add (.t 35) (ci_ 1)),
  po_ 37 (.slS (.t 34) (some (.t 36)) none),
  mv_ 38 7,
  mv_ 39 8,
  po_ 40 (.idxS (.t 38) (.t 39)),
  so_ 41 (.call 136 [.t 37, .t 40]),
  mv_ 11 41] [0, 7, 8, 9, 11])
 (.seq (.seq (.ops [mv_ 42 11,
  po_ 43 (.bin 3 .lss (.t 42) (ci_ 0))] [0, 7, 8, 9, 11, 43])
 (.cond (.t 43)
 (.seq (.ops [po_ 4 (.mov (.c (.int .i64 (-1))))] [4])
  (.ret))
 (.skip)))
 (.ops [mv_ 44 9,
  mv_ 45 11,
  po_ 46 (.bin 3 .add (.t 45) (ci_ 1)),
  po_ 47 (.bin 3 .add (.t 44) (.t 46)),
  mv_ 9 47] [0, 7, 8, 9]))
def ALv : AFb := .cond (.t 33)
 ALt
 (.skip)
def ALE : AFb := .seq (.block 4 (.seq (.draw 6 [mv_ 54 0,
  mv_ 55 9,
  mv_ 56 12,
  po_ 57 (.bin 3 .sub (.t 55) (.t 56)),
  po_ 58 (.idxS (.t 54) (.t 57)),
  mv_ 59 7,
  mv_ 60 8,
  mv_ 61 12,
  po_ 62 (.bin 3 .sub (.t 60) (.t 61)),
  po_ 63 (.idxS (.t 59) (.t 62)),
  po_ 64 (.bin 5 .neq (.t 58) (.t 63))] [0, 7, 8, 9, 12, 64])
 (.cond (.t 64)
 (.dead)
 (.skip))))
 (.ops [mv_ 52 12,
  po_ 53 (.bin 3 .add (.t 52) (ci_ 1)),
  mv_ 12 53] [0, 7, 8, 9, 12])
def ALC : AFb := .seq (.seq (.ops [mv_ 48 12,
  mv_ 49 7,
  po_ 50 (.lenS (.t 49)),
  po_ 51 (.bin 3 .lss (.t 48) (.t 50))] [0, 7, 8, 9, 12, 51])
 (.cond (.t 51)
 (.skip)
 (.exit 3)))
 ALE
def ALp : AFb := .block 3 (.loop [0, 7, 8, 9, 12] ALC)
def ALA : AFb := .seq (.ops [po_ 72 (.mov (.c (.bool true))),
  ⟨some 73, .p (.mov (.t 10)), some ⟨72, true⟩⟩,
  ⟨some 74, .p (.mov (.t 9)), some ⟨72, true⟩⟩,
  ⟨some 75, .s (.call 149 [.t 74]), some ⟨72, true⟩⟩,
  ⟨some 76, .p (.bin 3 .gtr (.t 73) (.t 75)), some ⟨72, true⟩⟩,
  po_ 77 (.pick (.t 72) (.t 76) (.c (.bool false))),
  mv_ 78 77,
  ⟨some 79, .p (.mov (.t 9)), some ⟨78, true⟩⟩,
  ⟨some 80, .p (.mov (.t 0)), some ⟨78, true⟩⟩,
  ⟨some 81, .p (.lenS (.t 80)), some ⟨78, true⟩⟩,
  ⟨some 82, .p (.bin 3 .lss (.t 79) (.t 81)), some ⟨78, true⟩⟩,
  po_ 83 (.pick (.t 78) (.t 82) (.c (.bool false))),
  mv_ 84 83,
  ⟨some 85, .p (.mov (.c (.bool false))), some ⟨84, false⟩⟩,
  ⟨some 86, .p (.mov (.t 10)), some ⟨85, true⟩⟩,
  ⟨some 87, .p (.mov (.t 9)), some ⟨85, true⟩⟩,
  ⟨some 88, .p (.bin 3 .shr (.t 87) (.c (.int .u64 ((4 : Nat) : Int)))), some ⟨85, true⟩⟩,
  ⟨some 89, .p (.bin 3 .add (ci_ 4) (.t 88)), some ⟨85, true⟩⟩,
  ⟨some 90, .p (.bin 3 .geq (.t 86) (.t 89)), some ⟨85, true⟩⟩,
  ⟨some 91, .p (.pick (.t 85) (.t 90) (.c (.bool false))), some ⟨84, false⟩⟩,
  ⟨some 92, .p (.mov (.t 91)), some ⟨84, false⟩⟩,
  ⟨some 93, .p (.mov (.t 9)), some ⟨92, true⟩⟩,
  ⟨some 94, .p (.mov (.t 0)), some ⟨92, true⟩⟩,
  ⟨some 95, .p (.lenS (.t 94)), some ⟨92, true⟩⟩,
  ⟨some 96, .p (.bin 3 .lss (.t 93) (.t 95)), some ⟨92, true⟩⟩,
  ⟨some 97, .p (.pick (.t 92) (.t 96) (.c (.bool false))), some ⟨84, false⟩⟩,
  po_ 98 (.pick (.t 84) (.c (.bool true)) (.t 97))] [0, 7, 8, 9, 98])
 (.cond (.t 98)
 (.dead)
 (.skip))
def AKw : AFb := .seq (.ops [mv_ 70 9,
  po_ 71 (.bin 3 .add (.t 70) (ci_ 1)),
  mv_ 9 71] [0, 7, 8, 9, 10])
 ALA
def AKQ : AFb := .seq (.ops [mv_ 68 10,
  po_ 69 (.bin 3 .add (.t 68) (ci_ 1)),
  mv_ 10 69] [0, 7, 8, 9, 10])
 AKw
def AKJ : AFb := .seq (.skip)
 AKQ
def AKd : AFb := .seq (.seq (.ops [mv_ 65 9,
  mv_ 66 8,
  po_ 67 (.bin 3 .sub (.t 65) (.t 66)),
  mv_ 4 67] [4])
 (.ret))
 AKJ
def AKs : AFb := .seq (.seq (.ops [po_ 12 (.mov (ci_ 1))] [0, 7, 8, 9, 12])
 ALp)
 AKd
def AKW : AFb := .block 2 (.scope (.seq (.seq (.draw 3 [mv_ 27 0,
  mv_ 28 9,
  po_ 29 (.idxS (.t 27) (.t 28)),
  mv_ 30 7,
  mv_ 31 8,
  po_ 32 (.idxS (.t 30) (.t 31)),
  po_ 33 (.bin 5 .neq (.t 29) (.t 32))] [0, 7, 8, 9, 33])
 ALv)
 AKs))
def ALb : AFb := .seq (.seq (.ops [mv_ 23 9,
  mv_ 24 0,
  po_ 25 (.lenS (.t 24)),
  po_ 26 (.bin 3 .lss (.t 23) (.t 25))] [0, 7, 8, 9, 26])
 (.cond (.t 26)
 (.skip)
 (.exit 1)))
 AKW
def AKL : AFb := .seq (.dead)
 (.seq (.ops [mv_ 107 13,
  po_ 108 (.bin 3 .geq (.t 107) (ci_ 0))] [8, 9, 13, 108])
 (.cond (.t 108)
 (.seq (.ops [mv_ 109 9,
   mv_ 110 13,
   po_ 111 (.bin 3 .add (.t 109) (.t 110)),
   mv_ 112 8,
   po_ 113 (.bin 3 .sub (.t 111) (.t 112)),
   mv_ 4 113] [4])
  (.ret))
 (.skip)))
def AKK : AFb := .seq (.block 8 (.seq (.draw 6 [mv_ 146 0,
  mv_ 147 9,
  mv_ 148 16,
  po_ 149 (.bin 3 .sub (.t 147) (.t 148)),
  po_ 150 (.idxS (.t 146) (.t 149)),
  mv_ 151 7,
  mv_ 152 8,
  mv_ 153 16,
  po_ 154 (.bin 3 .sub (.t 152) (.t 153)),
  po_ 155 (.idxS (.t 151) (.t 154)),
  po_ 156 (.bin 5 .neq (.t 150) (.t 155))] [0, 7, 8, 9, 14, 15, 16, 156])
 (.cond (.t 156)
 (.exit 6)
 (.skip))))
 (.ops [mv_ 144 16,
  po_ 145 (.bin 3 .add (.t 144) (ci_ 1)),
  mv_ 16 145] [0, 7, 8, 9, 14, 15, 16])
def ALa : AFb := .seq (.seq (.ops [mv_ 140 16,
  mv_ 141 7,
  po_ 142 (.lenS (.t 141)),
  po_ 143 (.bin 3 .lss (.t 140) (.t 142))] [0, 7, 8, 9, 14, 15, 16, 143])
 (.cond (.t 143)
 (.skip)
 (.exit 7)))
 AKK
def AKr : AFb := .block 7 (.loop [0, 7, 8, 9, 14, 15, 16] ALa)
def AKI : AFb := .seq (.ops [mv_ 157 9,
  mv_ 158 8,
  po_ 159 (.bin 3 .sub (.t 157) (.t 158)),
  mv_ 4 159] [4])
 (.ret)
def AKX : AFb := .seq (.seq (.ops [po_ 16 (.mov (ci_ 2))] [0, 7, 8, 9, 14, 15, 16])
 AKr)
 AKI
def AKD : AFb := .cond (.t 139)
 AKX
 (.skip)
def AKf : AFb := .ops [mv_ 125 9,
  po_ 126 (.bin 3 .add (.t 125) (ci_ 1)),
  mv_ 9 126] [0, 7, 8, 9, 14, 15]
def AKV : AFb := .seq (.block 6 (.seq (.ops [mv_ 127 0,
  mv_ 128 9,
  po_ 129 (.idxS (.t 127) (.t 128)),
  mv_ 130 14,
  po_ 131 (.bin 5 .eql (.t 129) (.t 130)),
  mv_ 132 131,
  ⟨some 133, .p (.mov (.t 0)), some ⟨132, true⟩⟩,
  ⟨some 134, .p (.mov (.t 9)), some ⟨132, true⟩⟩,
  ⟨some 135, .p (.bin 3 .sub (.t 134) (ci_ 1)), some ⟨132, true⟩⟩,
  ⟨some 136, .p (.idxS (.t 133) (.t 135)), some ⟨132, true⟩⟩,
  ⟨some 137, .p (.mov (.t 15)), some ⟨132, true⟩⟩,
  ⟨some 138, .p (.bin 5 .eql (.t 136) (.t 137)), some ⟨132, true⟩⟩,
  po_ 139 (.pick (.t 132) (.t 138) (.c (.bool false)))] [0, 7, 8, 9, 14, 15, 139])
 AKD))
 AKf
def AKa : AFb := .seq (.seq (.ops [mv_ 121 9,
  mv_ 122 0,
  po_ 123 (.lenS (.t 122)),
  po_ 124 (.bin 3 .lss (.t 121) (.t 123))] [0, 7, 8, 9, 14, 15, 124])
 (.cond (.t 124)
 (.skip)
 (.exit 5)))
 AKV
def AKb : AFb := .block 5 (.loop [0, 7, 8, 9, 14, 15] AKa)
def AKx : AFb := .seq (.skip)
 AKb
def AKm : AFb := .seq (.ops [mv_ 117 7,
  mv_ 118 8,
  po_ 119 (.bin 3 .sub (.t 118) (ci_ 1)),
  po_ 120 (.idxS (.t 117) (.t 119)),
  mv_ 15 120] [0, 7, 8, 9, 14, 15])
 AKx
def AKB : AFb := .scope (.seq (.ops [mv_ 114 7,
  mv_ 115 8,
  po_ 116 (.idxS (.t 114) (.t 115)),
  mv_ 14 116] [0, 7, 8, 9, 14])
 AKm)
def AKZ : AFb := .seq (.ops [po_ 4 (.mov (.c (.int .i64 (-1))))] [4])
 (.ret)
def AK5 : AFb := .seq (.cond (.c (.bool true))
 AKL
 AKB)
 AKZ
def AKH : AFb := .seq (.skip)
 AK5
def AKY : AFb := .seq (.seq (.ops [po_ 4 (.mov (.c (.int .i64 (-1))))] [4])
 (.ret))
 AKH
def AKy : AFb := .seq (.block 1 (.loop [0, 7, 8, 9] ALb))
 AKY
def AK9 : AFb := .seq (.ops [po_ 10 (.mov (ci_ 0))] [0, 7, 8, 9])
 AKy
def AKS : AFb := .seq (.ops [mv_ 22 8,
  mv_ 9 22] [0, 7, 8, 9])
 AK9
def AKN : AFb := .seq (.ops [mv_ 19 7,
  po_ 20 (.lenS (.t 19)),
  po_ 21 (.bin 3 .sub (.t 20) (ci_ 1)),
  mv_ 8 21] [0, 7, 8])
 AKS
def AKh : AFb := .scope (.seq (.ops [mv_ 17 1,
  po_ 18 (.gen .r2s [.t 17]),
  mv_ 7 18] [0, 7])
 AKN)
def AK1 : AFb := .cond (.t 183)
 (.seq (.ops [po_ 4 (.mov (.c (.int .i64 (-1))))] [4])
  (.ret))
 AKh
def AKn : AFb := .seq (.ops [mv_ 184 1,
  so_ 185 (.call 175 [.t 184]),
  po_ 186 (.un .not (.t 185)),
  mv_ 183 186] [0, 1, 183])
 AK1
def AKt : AFb := .cond (.t 171)
 ALG
 AKn
def AKU : AFb := .seq (.ops [mv_ 172 1,
  po_ 173 (.bin 21 .eql (.t 172) (.c (.int .i32 ((65533 : Nat) : Int)))),
  mv_ 171 173] [0, 1, 171])
 AKt
def ALc : AFb := .cond (.t 160)
 (.seq (.ops [mv_ 167 0,
   mv_ 168 1,
   po_ 169 (.conv .u8 (.t 168)),
   so_ 170 (.call 136 [.t 167, .t 169]),
   mv_ 4 170] [4])
  (.ret))
 AKU
def AKF : AFb := .block 0 (.seq (.ops [mv_ 161 1,
  po_ 162 (.bin 21 .leq (.c (.int .i32 ((0 : Nat) : Int))) (.t 161)),
  mv_ 163 162,
  ⟨some 164, .p (.mov (.t 1)), some ⟨163, true⟩⟩,
  ⟨some 165, .p (.bin 21 .lss (.t 164) (.c (.int .i32 ((128 : Nat) : Int)))), some ⟨163, true⟩⟩,
  po_ 166 (.pick (.t 163) (.t 165) (.c (.bool false))),
  mv_ 160 166] [0, 1, 160])
 ALc)
def AOG : AFb := .seq (.ops [po_ 4 (.mov (ci_ 0))] [0, 1])
 AKF
def AOx : List VR := [.tmp 4]
theorem AXa : Tryz.f157.body.bind (trC Tryz.prog Tryz.f157.ntmps) = some (er AOG) := by kernel_rfl
theorem AX8 : trR Tryz.prog Tryz.f157.results.toList = some AOx := by kernel_rfl
def AQ3 := AE7 ALq.eq_1
def AQ8 := AE7 ALs.eq_1
def ARJ := AE7 ALG.eq_1
def ARc := AE7 ALt.eq_1
def ARI := AE7 ALv.eq_1
def ARv := AE7 ALE.eq_1
def AQ9 := AE7 ALC.eq_1
def ASd := AE7 ALp.eq_1
def ASz := AE7 ALA.eq_1
def AP5 := AE7 AKw.eq_1
def AQi := AE7 AKQ.eq_1
def AP9 := AE7 AKJ.eq_1
def AQd := AE7 AKd.eq_1
def AQq := AE7 AKs.eq_1
def AQw := AE7 AKW.eq_1
def AQC := AE7 ALb.eq_1
def APW := AE7 AKL.eq_1
def AQn := AE7 AKK.eq_1
def AQr := AE7 ALa.eq_1
def AQa := AE7 AKr.eq_1
def APV := AE7 AKI.eq_1
def AQp := AE7 AKX.eq_1
def AQs := AE7 AKD.eq_1
def AP6 := AE7 AKf.eq_1
def APQ := AE7 AKV.eq_1
def AP2 := AE7 AKa.eq_1
def AQg := AE7 AKb.eq_1
def APY := AE7 AKx.eq_1
def AQf := AE7 AKm.eq_1
def AP1 := AE7 AKB.eq_1
def AQt := AE7 AKZ.eq_1
def AP7 := AE7 AK5.eq_1
def AQm := AE7 AKH.eq_1
def APZ := AE7 AKY.eq_1
def AQc := AE7 AKy.eq_1
def APU := AE7 AK9.eq_1
def AQk := AE7 AKS.eq_1
def AQz := AE7 AKN.eq_1
def AQx := AE7 AKh.eq_1
def AP8 := AE7 AK1.eq_1
def AQB := AE7 AKn.eq_1
def APR := AE7 AKt.eq_1
def AQE := AE7 AKU.eq_1
def AQv := AE7 ALc.eq_1
def APP := AE7 AKF.eq_1
def AUx := AE7 AOG.eq_1
theorem AVt {K : TV → Prop} {e : Env} {H : List Ob} : res AOx e H K = res [.tmp 4] e H K := AE9 rfl
def AF4 := (And.intro (And.intro (And.intro (And.intro (And.intro (And.intro @AQ3 @AQ8) (And.intro @ARJ @ARc)) (And.intro (And.intro @ARI @ARv) (And.intro @AQ9 @ASd))) (And.intro (And.intro (And.intro @ASz @AP5) (And.intro @AQi @AP9)) (And.intro (And.intro @AQd @AQq) (And.intro @AQw @AQC)))) (And.intro (And.intro (And.intro (And.intro @APW @AQn) (And.intro @AQr @AQa)) (And.intro (And.intro @APV @AQp) (And.intro @AQs @AP6))) (And.intro (And.intro (And.intro @APQ @AP2) (And.intro @AQg @APY)) (And.intro (And.intro @AQf @AP1) (And.intro @AQt @AP7))))) (And.intro (And.intro (And.intro (And.intro @AQm @APZ) (And.intro @AQc @APU)) (And.intro (And.intro @AQk @AQz) (And.intro @AQx @AP8))) (And.intro (And.intro (And.intro @AQB @APR) (And.intro @AQE @AQv)) (And.intro (And.intro @APP @AUx) @AVt))))
def AVU := AGG 187 Tryz.func157 AXa AX8 rfl

def AJg : AFb := .seq (.ops [po_ 2 (.mov (.c (.bool false)))] [0])
 (.seq (.ops [mv_ 3 0,
  po_ 4 (.bin 3 .gtr (.t 3) (ci_ 8)),
  mv_ 2 4] [2])
 (.ret))
def AJb : List VR := [.tmp 2]
theorem AON : Tryz.f158.body.bind (trC Tryz.prog Tryz.f158.ntmps) = some (er AJg) := by kernel_rfl
theorem AOy : trR Tryz.prog Tryz.f158.results.toList = some AJb := by kernel_rfl
def ANq := AE7 AJg.eq_1
theorem ANg {K : TV → Prop} {e : Env} {H : List Ob} : res AJb e H K = res [.tmp 2] e H K := AE9 rfl
def AOO := (And.intro @ANq @ANg)
def AOi := AGG 5 Tryz.func158 AON AOy rfl

end Go.Proofs.YtliaddbbmnfioaaGreatDoor


namespace Go.Proofs.YtliaddbbmnfioaaGreatDoor
open Go.RowKit
/-- internal/bytealg.MaxLen holds some number. -/
class AIJ [AFG] : Prop where
 k : ∃ m, AKT 2 = some (.one (.int .i64 m))
variable [AFG]
set_option linter.unusedSectionVars false
set_option linter.unusedVariables false
set_option linter.unusedSimpArgs false

/-- A call on plain values that leaves what was there aS it was, and yields some values. -/
theorem AFE.ofBelowT {f : FuncId} {args rs : List Value} (h : ∀ (F : Nat → Prop) w, AJB F w → Calls Tryz.prog f args.toArray w fun e w' => e = .returned (.tuple rs.toArray) ∧ Below w.heap.size w w') : AFE Tryz.prog f (args.map .val) (fun x => x = .tup (rs.map .val)) := by
 intro β F w vs hF hv
 have hvs : vs = args := by
  clear h hF
  induction args generalizing vs with
  | nil => rw [List.map_nil, AF9.nil] at hv; exact hv
  | cons a args ih =>
   rw [List.map_cons] at hv
   obtain ⟨v, us, rfl, h1, h2⟩ := AF9.cons.1 hv
   have := Rep.val.1 (Or.inl h1 : Rep _ _ _ _)
   rw [this, ih us h2]
 subst hvs
 refine (h F w hF.2).mono ?_
 rintro e w' ⟨rfl, hb⟩
 have hr : ∀ l : List Value, AF9 ⟨β, [], F⟩ w' (l.map .val) l := by
  intro l
  induction l with
  | nil => rw [List.map_nil, AF9.nil]
  | cons a l ih => exact AF9.cons.2 ⟨a, l, rfl, .inr (.inl rfl), ih⟩
 exact ⟨_, _, F, rfl, rfl, .inr ⟨_, _, rfl, rfl, hr rs⟩, ⟨hb.os, hb.tape, hb.output, hb.size, hb.block, fun _ h => h, fun _ _ h => h, fun b hb' => Nat.lt_of_lt_of_le (hF.1 b hb') hb.size⟩⟩
theorem AFE.ofBelow {f : FuncId} {args : List Value} {r : Value} (h : ∀ (F : Nat → Prop) w, AJB F w → Calls Tryz.prog f args.toArray w fun e w' => e = .returned r ∧ Below w.heap.size w w') : AFE Tryz.prog f (args.map .val) (fun x => x = .val r) := by
 intro β F w vs hF hv
 have hvs : vs = args := by
  clear h hF
  induction args generalizing vs with
  | nil => rw [List.map_nil, AF9.nil] at hv; exact hv
  | cons a args ih =>
   rw [List.map_cons] at hv
   obtain ⟨v, us, rfl, h1, h2⟩ := AF9.cons.1 hv
   have := Rep.val.1 (Or.inl h1 : Rep _ _ _ _)
   rw [this, ih us h2]
 subst hvs
 refine (h F w hF.2).mono ?_
 rintro e w' ⟨rfl, hb⟩
 exact ⟨_, _, F, rfl, rfl, Rep.of_val, ⟨hb.os, hb.tape, hb.output, hb.size, hb.block, fun _ h => h, fun _ _ h => h, fun b hb' => Nat.lt_of_lt_of_le (hF.1 b hb') hb.size⟩⟩
theorem AOn {B : Nat} (w : World) : Below B w w := ⟨rfl, rfl, rfl, Nat.le_refl _, fun _ _ => rfl⟩
theorem A9a {B : Nat} (w : World) (n : Nat) : Below B w (w.drewN n) := ⟨rfl, rfl, rfl, Nat.le_refl _, fun _ _ => rfl⟩
theorem A3Z (w : World) (k : Nat) (os : Array Obj) : Below w.heap.size w (Sort.grow (w.drewN k) os) := ⟨rfl, rfl, rfl, by simp [Sort.grow, World.drewN], fun i hi => by simp [Sort.grow, World.drewN, Array.getElem?_append_left hi]⟩
theorem A8m (l : List UInt8) : (str l).data.toList = l := by simp [str]
theorem A1z (l : List UInt8) : (str l).size = l.length := by show l.toArray.size = _; simp
theorem Ba0 [AIJ] {F : Nat → Prop} {w : World} (hg : AJB F w) : ∃ m, w.cell? ⟨2, 0, none⟩ = some (.int .i64 m) := by
 obtain ⟨m, hm⟩ := AIJ.k
 obtain ⟨_, t, fr, hh⟩ := hg _ _ hm
 exact ⟨m, by simp [World.cell?, hh, GV.cells]⟩
theorem BeB [AIJ] (s p : List UInt8) (hs : s.length ≤ 1000000) : AFE Tryz.prog 109 [ts s, ts p] (fun x => x = .tup [ts (Lib.cut s p).1, ts (Lib.cut s p).2.1, tb (Lib.cut s p).2.2]) := by
 have h := AFE.ofBelowT (f := 109) (args := [.string (str s), .string (str p)]) (rs := [.string (str (Lib.cut s p).1), .string (str (Lib.cut s p).2.1), .bool (Lib.cut s p).2.2]) (fun F w hg => by
  obtain ⟨m, hm⟩ := Ba0 hg
  have h1 := Tryz.strings_Cut (str s) (str p) m w (by rw [A1z]; omega) hm
  rw [A8m, A8m] at h1
  refine h1.mono ?_
  rintro e w' ⟨rfl, n, rfl⟩
  exact ⟨rfl, A9a _ _⟩)
 exact h
theorem A3K (s p : List UInt8) : AFE Tryz.prog 107 [ts s, ts p] (fun x => x = .tup [ts (Lib.trimPrefix s p), tb (Lib.hasPrefix s p)]) := by
 have h := AFE.ofBelowT (f := 107) (args := [.string (str s), .string (str p)]) (rs := [.string (str (Lib.trimPrefix s p)), .bool (Lib.hasPrefix s p)]) (fun F w hg => by
  have h1 := Tryz.strings_CutPrefix (str s) (str p) w
  rw [A8m, A8m] at h1
  refine h1.mono ?_
  rintro e w' ⟨rfl, rfl⟩
  exact ⟨rfl, AOn _⟩)
 exact h
theorem A4C (c : UInt8) : ∀ s : List UInt8, 0 ≤ Lib.indexByte s c ↔ c ∈ s
 | [] => by simp [Lib.indexByte]
 | b :: l => by
  have ih := A4C c l
  have hg := Lib.indexByte_ge l c
  rw [Lib.indexByte]
  by_cases e : b = c
  ·simp [e]
  ·rw [if_neg (by simpa using e)]
   have e2 : (c ∈ b :: l) ↔ c ∈ l := by simp [Ne.symm e]
   rw [e2, ← ih]
   by_cases h : (Lib.indexByte l c == -1) = true
   ·rw [if_pos h]
    have h3 : Lib.indexByte l c = -1 := by simpa using h
    rw [h3]
   ·rw [if_neg h]
    have h3 : Lib.indexByte l c ≠ -1 := fun e => h (by rw [e]; rfl)
    omega
theorem A6l (s : List UInt8) (c : UInt8) : AFE Tryz.prog 60 [ts s, ts [c]] (fun x => x = tb (decide (c ∈ s))) := by
 have h := AFE.ofBelow (f := 60) (args := [.string (str s), .string (str [c])]) (r := .bool (decide (c ∈ s))) (fun F w _ => by
  have h1 := Tryz.strings_Contains_one (str s) c w
  rw [A8m] at h1
  refine h1.mono ?_
  rintro e w' ⟨rfl, rfl⟩
  exact ⟨by simp only [A4C], AOn _⟩)
 exact h
theorem Bf4 (s : List UInt8) (c : UInt8) (hc : c.toNat < 128) (hs : s.length ≤ 1000000) : AFE Tryz.prog 59 [ts s, ts [c]] (fun x => x = ts (Lib.trimB s c)) := by
 have h := AFE.ofBelow (f := 59) (args := [.string (str s), .string (str [c])]) (r := .string (str (Lib.trimB s c))) (fun F w _ => by
  have h1 := Tryz.strings_Trim_one (str s) c hc w (by rw [A1z]; omega)
  rw [A8m] at h1
  refine h1.mono ?_
  rintro e w' ⟨rfl, rfl | rfl⟩
  ·exact ⟨rfl, AOn _⟩
  ·exact ⟨rfl, rfl, rfl, rfl, Nat.le_refl _, fun _ _ => rfl⟩)
 exact h
theorem BeN (s m : List UInt8) (hs : s.length ≤ 1000000) (hl : m.length ≤ 1000) (hm : m.all (fun b => decide (b.toNat < 128)) = true) : AFE Tryz.prog 59 [ts s, ts m] (fun x => x = ts (Lib.trimS s m)) := by
 have h := AFE.ofBelow (f := 59) (args := [.string (str s), .string (str m)]) (r := .string (str (Lib.trimS s m))) (fun F w _ => by
  have h1 := Any.strings_Trim_laid Tryz.lays160 (by kernel_rfl) (str s) (str m) w (by rw [A1z]; omega) (by rw [A1z]; omega) (by rw [A8m]; exact ascii_of_all hm)
  rw [A8m, A8m] at h1
  exact h1)
 exact h
section
variable [AFg]
theorem A5w {F : Nat → Prop} {w : World} (h : AJB F w) : Lib.TabIs Tryz.prog w "internal/strconv.uint64pow10" .u64 Lib.pow10Tab := by
 obtain ⟨_, t, fr, h1⟩ := h 3 _ AFg.k
 have h2 : Tryz.prog.globalNamed "internal/strconv.uint64pow10" = some 3 := by kernel_rfl
 have h3 : AFt.cells.toArray = (Lib.pow10Tab.map fun z => Value.int .u64 z).toArray := by kernel_rfl
 unfold Lib.TabIs World.var?
 rw [h2, Option.bind_some, h1, h3]
theorem Bl2 (n : Int) (h0 : -9223372036854775808 ≤ n) (h1 : n ≤ 9223372036854775807) : AFE Tryz.prog 57 [i64 n] (fun x => x = ts (Lib.itoa n)) := by
 have h := AFE.ofBelow (f := 57) (args := [.int .i64 n]) (r := .string (str (Lib.itoa n))) (fun F w hg => by
  refine (Tryz.strconv_Itoa n h0 h1 w (A5w hg)).mono ?_
  rintro e w' ⟨rfl, k, os, rfl⟩
  exact ⟨rfl, A3Z _ _ _⟩)
 exact h
theorem A97 (n : Int) (h0 : -9223372036854775808 ≤ n) (h1 : n ≤ 9223372036854775807) : AFE Tryz.prog 58 [i64 n, i64 ((10 : Nat) : Int)] (fun x => x = ts (Lib.itoa n)) := by
 have h := AFE.ofBelow (f := 58) (args := [.int .i64 n, .int .i64 10]) (r := .string (str (Lib.itoa n))) (fun F w hg => by
  refine (Tryz.strconv_FormatInt_10 n h0 h1 w (A5w hg)).mono ?_
  rintro e w' ⟨rfl, k, os, rfl⟩
  exact ⟨rfl, A3Z _ _ _⟩)
 exact h
end
end Go.Proofs.YtliaddbbmnfioaaGreatDoor


namespace Go.Proofs.YtliaddbbmnfioaaGreatDoor
open Go.RowKit
variable [AFG]
set_option linter.unusedSectionVars false
set_option linter.unusedVariables false
set_option linter.unusedSimpArgs false

theorem A9l (r : Int) (h0 : -2147483648 ≤ r) (h1 : r ≤ 2147483647) : AFE Tryz.prog 175 [.val (.int .i32 r)] (fun x => x = tb (Lib.validRune r)) := by
 have h := AFE.ofBelow (f := 175) (args := [.int .i32 r]) (r := .bool (Lib.validRune r)) (fun F w _ => by
  refine (Tryz.utf8_ValidRune r w).mono ?_
  rintro e w' ⟨rfl, rfl⟩
  exact ⟨rfl, AOn _⟩)
 exact h
theorem A73 (s : List UInt8) (c : UInt8) : AFE Tryz.prog 136 [ts s, by8 c] (fun x => x = i64 (Lib.indexByte s c)) := by
 have h := AFE.ofBelow (f := 136) (args := [.string (str s), .int .u8 c.toNat]) (r := .int .i64 (Lib.indexByte s c)) (fun F w _ => by
  have h1 := Tryz.strings_IndexByte (str s) c.toNat w
  have e2 : ((c.toNat : Int)).toNat.toUInt8 = c := by rw [Int.toNat_natCast]; simp
  rw [A8m, e2] at h1
  refine h1.mono ?_
  rintro e w' ⟨rfl, rfl⟩
  exact ⟨rfl, AOn _⟩)
 exact h
theorem Ban (l : List UInt8) (k : Nat) (c : UInt8) (hk : l[k]? = some c) (hc : c.toNat < 128) : (Utf8.decode (str l) k).1 = c.toNat ∧ (Utf8.decode (str l) k).2 = 1 := by
 obtain ⟨hl, rfl⟩ := List.getElem?_eq_some_iff.1 hk
 have h : k < (str l).size := by rw [A1z]; exact hl
 have e : ((str l)[k]'h) = l[k] := rfl
 have := decode_ascii (str l) k h (by rw [e]; exact hc)
 rw [this, e]; exact ⟨rfl, rfl⟩
theorem u8N {n : Nat} (h : n < 256) : (UInt8.ofNat n).toNat = n := by rw [UInt8.toNat_ofNat']; omega
theorem Bnc (r : Nat) (h0 : 128 ≤ r) : ∃ (L : List UInt8) (x : UInt8), Utf8.encode (r : Int) = str (L ++ [x]) ∧ 1 ≤ L.length ∧ L.length ≤ 3 ∧ 128 ≤ x.toNat := by
 have key : ∀ c : Nat, 128 ≤ c → ∃ (L : List UInt8) (x : UInt8), (if c < 0x80 then (⟨#[UInt8.ofNat c]⟩ : ByteArray)
   else if c < 0x800 then ⟨#[UInt8.ofNat (0xC0 + c / 64), UInt8.ofNat (0x80 + c % 64)]⟩
   else if c < 0x10000 then ⟨#[UInt8.ofNat (0xE0 + c / 4096), UInt8.ofNat (0x80 + c / 64 % 64), UInt8.ofNat (0x80 + c % 64)]⟩
   else ⟨#[UInt8.ofNat (0xF0 + c / 262144), UInt8.ofNat (0x80 + c / 4096 % 64), UInt8.ofNat (0x80 + c / 64 % 64), UInt8.ofNat (0x80 + c % 64)]⟩) = str (L ++ [x]) ∧ 1 ≤ L.length ∧ L.length ≤ 3 ∧ 128 ≤ x.toNat := by
  intro c hc
  have hx : 128 ≤ (UInt8.ofNat (0x80 + c % 64)).toNat := by rw [u8N (by omega)]; omega
  rw [if_neg (by omega)]
  by_cases h1 : c < 0x800
  ·rw [if_pos h1]; exact ⟨[_], _, rfl, by simp, by simp, hx⟩
  ·rw [if_neg h1]
   by_cases h2 : c < 0x10000
   ·rw [if_pos h2]; exact ⟨[_, _], _, rfl, by simp, by simp, hx⟩
   ·rw [if_neg h2]; exact ⟨[_, _, _], _, rfl, by simp, by simp, hx⟩
 unfold Utf8.encode
 refine key _ ?_
 split
 ·simpa using h0
 ·decide
theorem BaU {c : UInt8} {l : List UInt8} (h : c ∉ l) : Lib.indexByte l c = -1 := by
 have h1 := Lib.indexByte_ge l c
 have h2 : ¬ 0 ≤ Lib.indexByte l c := fun e => h ((A4C c l).1 e)
 omega
set_option maxRecDepth 100000 in
theorem A7b (m : List UInt8) (hm : ∀ x ∈ m, x.toNat < 128) (hl : m.length ≤ 1000) (r : Nat) (h0 : 128 ≤ r) (h1 : r ≤ 1114111) : AFE Tryz.prog 157 [ts m, .val (.int .i32 (r : Int))] (fun x => x = i64 (-1)) := by
 refine AFk.toPureV (AVU (by simp) ?_)
 by_cases hr : r = 65533
 ·subst hr
  simp -dsimp (disch := first | assumption | omega) only [↓AFe, AFa, AFc, AFd, eq_self, Nat.reduceLT, Nat.reduceEqDiff, ↓reduceIte, Nat.reduceAdd, reduceCtorEq, ↓AF4]
  rw [AFi]
  refine AI0 (fun q e H => ∃ k : Nat, q = m.length - k ∧ k ≤ m.length ∧ e = [(175, .op 0 0 [])] ∧ H = [.sit m k]) m.length ?_ ?_
  ·exact ⟨0, rfl, by omega, rfl, rfl⟩
  ·rintro q e H ⟨k, rfl, hk, rfl, rfl⟩
   by_cases hp : k < m.length
   ·obtain ⟨c, hc⟩ : ∃ c, m[k]? = some c := ⟨_, List.getElem?_eq_getElem hp⟩
    obtain ⟨d1, d2⟩ := Ban m k c hc (hm c (List.mem_of_getElem? hc))
    have hc7 := hm c (List.mem_of_getElem? hc)
    simp -dsimp (disch := first | assumption | omega) only [↓AFe, AFa, AFc, AFd, eq_self, Nat.reduceEqDiff, ↓reduceIte, ↓AF4, d1, d2]
    exact AFO (m.length - (k + 1)) (by omega) (by simp) ⟨k + 1, rfl, by omega, rfl, rfl⟩
   ·simp -dsimp (disch := first | assumption | omega) only [↓AFe, AFa, AFc, AFd, eq_self, Nat.reduceEqDiff, ↓reduceIte, ↓AF4]
 ·simp -dsimp (disch := first | assumption | omega) only [↓AFe, AFa, AFc, AFd, eq_self, Nat.reduceEqDiff, ↓reduceIte, Nat.reduceAdd, reduceCtorEq, ↓AF4]
  refine (A9l r (by omega) (by omega)).calls rfl ?_
  rintro _ rfl
  cases hv : Lib.validRune (r : Int) with
  | false =>
   simp -dsimp (disch := first | assumption | omega) only [↓AFe, AFa, AFc, AFd, eq_self, Nat.reduceEqDiff, ↓reduceIte, reduceCtorEq, ↓AF4]
  | true =>
   obtain ⟨L, x, he, l1, l3, hx⟩ := Bnc r h0
   simp -dsimp (disch := first | assumption | omega) only [↓AFe, AFa, AFc, AFd, eq_self, Nat.reduceEqDiff, ↓reduceIte, reduceCtorEq, ↓AF4, he, AFi]
   refine AI0 (fun q e H => e = [(0, ts m), (7, .val (.string (str (L ++ [x])))), (8, i64 (L.length : Int)), (9, i64 (L.length : Int))] ∧ H = []) 0 ⟨rfl, rfl⟩ ?_
   rintro q e H ⟨rfl, rfl⟩
   by_cases h2 : L.length < m.length
   ·obtain ⟨y, hy⟩ : ∃ y, m[L.length]? = some y := ⟨_, List.getElem?_eq_getElem h2⟩
    have hy7 := hm y (List.mem_of_getElem? hy)
    have hyx : ¬ y.toNat = x.toNat := by omega
    have hno : Lib.indexByte (m.drop (L.length + 1)) x = -1 := BaU fun h => by have := hm x (List.mem_of_mem_drop h); omega
    have hgx : (L ++ [x])[L.length]? = some x := by simp
    simp -dsimp (disch := first | assumption | omega) only [↓AFe, AFa, AFc, AFd, eq_self, Nat.reduceEqDiff, ↓reduceIte, reduceCtorEq, ↓AF4, AFi, hy, hyx, hgx]
    refine (A73 (m.drop (L.length + 1)) x).calls rfl ?_
    rintro _ rfl
    rw [hno]
    simp -dsimp (disch := first | assumption | omega) only [↓AFe, AFa, AFc, AFd, eq_self, Nat.reduceEqDiff, ↓reduceIte, reduceCtorEq, ↓AF4]
   ·simp -dsimp (disch := first | assumption | omega) only [↓AFe, AFa, AFc, AFd, eq_self, Nat.reduceEqDiff, ↓reduceIte, reduceCtorEq, ↓AF4, AFi]
theorem A5P (n b0 b1 b2 b3 : Nat) : (2 ≤ (Lib.decodeN n b0 b1 b2 b3).2 → 1 < n ∧ b1 / 64 = 2) ∧ (3 ≤ (Lib.decodeN n b0 b1 b2 b3).2 → 2 < n ∧ b2 / 64 = 2) ∧ (4 ≤ (Lib.decodeN n b0 b1 b2 b3).2 → 3 < n ∧ b3 / 64 = 2) ∧ (Lib.decodeN n b0 b1 b2 b3).2 ≤ 4 := by
 unfold Lib.decodeN
 by_cases h0 : b0 < 128
 ·rw [if_pos h0]; simp
 rw [if_neg h0]
 by_cases h1 : b0 / 32 = 6 ∧ (1 < n ∧ b1 / 64 = 2)
 ·rw [if_pos h1]; obtain ⟨_, h2, h3⟩ := h1; split <;> simp [h2, h3]
 rw [if_neg h1]
 by_cases h4 : b0 / 16 = 14 ∧ (1 < n ∧ b1 / 64 = 2) ∧ (2 < n ∧ b2 / 64 = 2)
 ·rw [if_pos h4]; obtain ⟨_, ⟨h2, h3⟩, h5, h6⟩ := h4; split <;> simp [h2, h3, h5, h6]
 rw [if_neg h4]
 by_cases h7 : b0 / 8 = 30 ∧ (1 < n ∧ b1 / 64 = 2) ∧ (2 < n ∧ b2 / 64 = 2) ∧ (3 < n ∧ b3 / 64 = 2)
 ·rw [if_pos h7]; obtain ⟨_, ⟨h2, h3⟩, ⟨h5, h6⟩, h8, h9⟩ := h7; split <;> simp [h2, h3, h5, h6, h8, h9]
 rw [if_neg h7]; simp
theorem BoX {l : List UInt8} {i : Nat} (h : i < l.length) : (str l).get! i = l[i] := by
 have h' : i < (str l).size := by rw [A1z]; exact h
 have e : (str l).get! i = (str l)[i]'h' := by
  simp [ByteArray.get!, getElem!_pos, h']
  rfl
 rw [e]; rfl
/-- What a rune's further bytes are. -/
theorem A7W {l : List UInt8} {pos j : Nat} (hj : pos < j) (hj2 : j < pos + (Utf8.decode (str l) pos).2) : ∃ c, l[j]? = some c ∧ 128 ≤ c.toNat := by
 rw [Lib.decode_at, A1z] at hj2
 obtain ⟨h1, h2, h3, h4⟩ := A5P (l.length - pos) ((str l).get! pos).toNat ((str l).get! (pos + 1)).toNat ((str l).get! (pos + 2)).toNat ((str l).get! (pos + 3)).toNat
 generalize (Lib.decodeN (l.length - pos) ((str l).get! pos).toNat ((str l).get! (pos + 1)).toNat ((str l).get! (pos + 2)).toNat ((str l).get! (pos + 3)).toNat).2 = k at *
 rcases (by omega : j = pos + 1 ∨ j = pos + 2 ∨ j = pos + 3) with rfl | rfl | rfl
 ·obtain ⟨q1, q2⟩ := h1 (by omega)
  rw [BoX (by omega)] at q2
  exact ⟨_, List.getElem?_eq_getElem (by omega), by omega⟩
 ·obtain ⟨q1, q2⟩ := h2 (by omega)
  rw [BoX (by omega)] at q2
  exact ⟨_, List.getElem?_eq_getElem (by omega), by omega⟩
 ·obtain ⟨q1, q2⟩ := h3 (by omega)
  rw [BoX (by omega)] at q2
  exact ⟨_, List.getElem?_eq_getElem (by omega), by omega⟩
theorem Bfw (l : List UInt8) (k : Nat) (c : UInt8) (hk : l[k]? = some c) (hc : 128 ≤ c.toNat) : 128 ≤ (Utf8.decode (str l) k).1 ∧ (Utf8.decode (str l) k).1 ≤ 1114111 ∧ 1 ≤ (Utf8.decode (str l) k).2 := by
 obtain ⟨hl, rfl⟩ := List.getElem?_eq_some_iff.1 hk
 have h : k < (str l).size := by rw [A1z]; exact hl
 have e : ((str l)[k]'h) = l[k] := rfl
 obtain ⟨h1, h2⟩ := decode_high (str l) k h (by rw [e]; exact hc)
 exact ⟨h1, Lib.rune_le _ _, h2⟩
theorem A06 (m : List UInt8) : ∀ l : List UInt8, 0 ≤ Lib.indexAny l m ↔ ∃ x ∈ l, x ∈ m
 | [] => by simp [Lib.indexAny]
 | b :: l => by
  have ih := A06 m l
  have hg := Lib.indexAny_ge m l
  unfold Lib.indexAny
  by_cases hb : b ∈ m
  ·simp [hb]
  ·have hb' : m.contains b = false := by simpa using hb
   rw [if_neg (by rw [hb']; simp)]
   by_cases h : Lib.indexAny l m = -1
   ·rw [h]
    have : ¬ ∃ x ∈ l, x ∈ m := by rw [← ih, h]; omega
    simp [hb, this]
   ·have h' : 0 ≤ Lib.indexAny l m := by omega
    have h2 : (Lib.indexAny l m == -1) = false := by simpa using h
    rw [h2]
    have := ih.1 h'
    simp [hb, this]
    omega
theorem A66 (m : List UInt8) (c : UInt8) (hc : c.toNat < 128) : AFE Tryz.prog 157 [ts m, .val (.int .i32 ((c.toNat : Nat) : Int))] (fun x => x = i64 (Lib.indexByte m c)) := by
 have h := AFE.ofBelow (f := 157) (args := [.string (str m), .int .i32 c.toNat]) (r := .int .i64 (Lib.indexByte m c)) (fun F w _ => by
  have h1 := Tryz.strings_IndexRune_ascii (str m) c.toNat w (by omega) (by omega)
  have e2 : ((c.toNat : Int)).toNat.toUInt8 = c := by rw [Int.toNat_natCast]; simp
  rw [A8m, e2] at h1
  refine h1.mono ?_
  rintro e w' ⟨rfl, rfl⟩
  exact ⟨rfl, AOn _⟩)
 exact h
set_option maxRecDepth 100000 in
theorem BbZ (s m : List UInt8) (hs : s.length ≤ 1000) (hm : ∀ x ∈ m, x.toNat < 128) (hl : m.length ≤ 1000) (hl2 : 2 ≤ m.length) : AFE Tryz.prog 125 [ts s, ts m] (fun x => ∃ i : Int, x = i64 i ∧ (0 ≤ i ↔ ∃ x ∈ s, x ∈ m)) := by
 by_cases h8 : 8 < s.length
 ·have h := AFE.ofBelow (f := 125) (args := [.string (str s), .string (str m)]) (r := .int .i64 (Lib.indexAny s m)) (fun F w _ => by
   have h1 := Tryz.strings_IndexAny_long (by intro w; kernel_rfl) (str s) (str m) w (by rw [A1z]; exact hl2) (by rw [A1z]; exact h8) (by rw [A1z]; omega) (by rw [A1z]; omega) (fun j x hx => by
    rw [A8m] at hx
    exact hm x (List.mem_of_getElem? hx))
   rw [A8m, A8m] at h1
   refine h1.mono ?_
   rintro e w' ⟨rfl, rfl⟩
   exact ⟨rfl, rfl, rfl, rfl, by simp; omega, fun i hi => by rw [AGC _ _ (by simp; omega), AGC _ _ hi]⟩)
  refine AFE.mono (args := [ts s, ts m]) h ?_
  rintro x rfl
  exact ⟨_, rfl, A06 _ _⟩
 ·refine AFk.toPureV (AYx (by simp) ?_)
  have n1 : ¬ m = [] := by rintro rfl; simp at hl2
  simp -dsimp (disch := first | assumption | omega) only [↓AFe, AFa, AFc, AFd, eq_self, Nat.reduceEqDiff, ↓reduceIte, Nat.reduceAdd, reduceCtorEq, ↓AGI, AFi]
  refine AOi (by simp) ?_
  simp -dsimp (disch := first | assumption | omega) only [↓AFe, AFa, AFc, AFd, eq_self, Nat.reduceEqDiff, ↓reduceIte, reduceCtorEq, ↓AOO, ↓AGI, AFi]
  refine AI0 (fun q e H => ∃ pos : Nat, q = s.length - pos ∧ (∀ j x, j < pos → s[j]? = some x → x ∉ m) ∧ e = [(1, ts m), (45, .op 0 0 [])] ∧ H = [.sit s pos]) s.length ?_ ?_
  ·exact ⟨0, rfl, fun j x h => by omega, rfl, rfl⟩
  ·rintro q e H ⟨pos, rfl, hno, rfl, rfl⟩
   by_cases hp : pos < s.length
   ·obtain ⟨c, hc⟩ : ∃ c, s[pos]? = some c := ⟨_, List.getElem?_eq_getElem hp⟩
    by_cases h7 : c.toNat < 128
    ·obtain ⟨d1, d2⟩ := Ban s pos c hc h7
     simp -dsimp (disch := first | assumption | omega) only [↓AFe, AFa, AFc, AFd, eq_self, Nat.reduceEqDiff, ↓reduceIte, ↓AGI, d1, d2]
     refine (A66 m c h7).calls rfl ?_
     rintro _ rfl
     by_cases hcm : c ∈ m
     ·obtain ⟨k, hk⟩ : ∃ k : Nat, Lib.indexByte m c = (k : Int) := by
       have := (A4C c m).2 hcm
       exact ⟨(Lib.indexByte m c).toNat, by omega⟩
      rw [hk]
      simp -dsimp (disch := first | assumption | omega) only [↓AFe, AFa, AFc, AFd, eq_self, Nat.reduceEqDiff, ↓reduceIte, ↓AGI]
      exact ⟨_, rfl, fun _ => ⟨c, List.mem_of_getElem? hc, hcm⟩, fun _ => by omega⟩
     ·have hk : Lib.indexByte m c = -1 := BaU hcm
      rw [hk]
      simp -dsimp (disch := first | assumption | omega) only [↓AFe, AFa, AFc, AFd, eq_self, Nat.reduceEqDiff, ↓reduceIte]
      refine AFO (s.length - (pos + 1)) (by omega) (by simp) ⟨pos + 1, rfl, fun j x hj hx => ?_, rfl, rfl⟩
      by_cases e : j = pos
      ·subst e; rw [hc] at hx; cases hx; exact hcm
      ·exact hno j x (by omega) hx
    ·obtain ⟨d1, d2, d3⟩ := Bfw s pos c hc (by omega)
     have hsk : ∀ j, pos < j → j < pos + (Utf8.decode (str s) pos).2 → ∃ c, s[j]? = some c ∧ 128 ≤ c.toNat := fun j h h2 => A7W h h2
     simp -dsimp (disch := first | assumption | omega) only [↓AFe, AFa, AFc, AFd, eq_self, Nat.reduceEqDiff, ↓reduceIte, ↓AGI]
     generalize (Utf8.decode (str s) pos).1 = r at *
     generalize (Utf8.decode (str s) pos).2 = k at *
     refine (A7b m hm hl r d1 d2).calls rfl ?_
     rintro _ rfl
     simp -dsimp (disch := first | assumption | omega) only [↓AFe, AFa, AFc, AFd, eq_self, Nat.reduceEqDiff, ↓reduceIte]
     have hi2 : ∀ y : UInt8, 128 ≤ y.toNat → y ∉ m := fun y hy hy2 => by
      have := hm y hy2
      omega
     refine AFO (s.length - (pos + k)) (by omega) (by simp) ⟨pos + k, rfl, fun j x hj hx => ?_, rfl, rfl⟩
     by_cases e : j = pos
     ·subst e; rw [hc] at hx; cases hx; exact hi2 _ (by omega)
     ·by_cases h2 : j < pos
      ·exact hno j x h2 hx
      ·obtain ⟨y, hy, hy2⟩ := hsk j (by omega) hj
       rw [hy] at hx; cases hx; exact hi2 _ hy2
   ·simp -dsimp (disch := first | assumption | omega) only [↓AFe, AFa, AFc, AFd, eq_self, Nat.reduceEqDiff, ↓reduceIte, ↓AGI]
    refine ⟨-1, rfl, fun h => by omega, fun ⟨x, hx, hxm⟩ => ?_⟩
    obtain ⟨j, hj, rfl⟩ := List.mem_iff_getElem.1 hx
    exact absurd hxm (hno j _ (by omega) (List.getElem?_eq_getElem hj))
theorem A5v (s m : List UInt8) (hs : s.length ≤ 1000) (hm : ∀ x ∈ m, x.toNat < 128) (hl : m.length ≤ 1000) (hl2 : 2 ≤ m.length) : AFE Tryz.prog 90 [ts s, ts m] (fun x => x = tb (decide (∃ x ∈ s, x ∈ m))) := by
 refine AFk.toPureV (ATU (by simp) ?_)
 simp -dsimp (disch := first | assumption | omega) only [↓AFe, AFa, AFc, AFd, eq_self, Nat.reduceEqDiff, ↓reduceIte, Nat.reduceAdd, reduceCtorEq, ↓AM9]
 refine (BbZ s m hs hm hl hl2).calls rfl ?_
 rintro _ ⟨i, rfl, hi⟩
 have e : (decide (∃ x ∈ s, x ∈ m)) = decide (0 ≤ i) := by simp only [hi]
 rw [e]
 simp -dsimp (disch := first | assumption | omega) only [↓AFe, AFa, AFc, AFd, eq_self, ↓reduceIte, ↓AM9]
 simp
end Go.Proofs.YtliaddbbmnfioaaGreatDoor


namespace Go.Proofs.YtliaddbbmnfioaaGreatDoor
variable [AFG]
set_option linter.unusedSectionVars false
set_option linter.unusedVariables false
set_option linter.defProp false
set_option maxRecDepth 100000

def AZy : ByteArray := str [97, 98, 99, 100, 101, 102, 103, 104, 105, 106, 107, 108, 109, 110, 111, 112, 113, 114, 115, 116, 117, 118, 119, 120, 121, 122, 65, 66, 67, 68, 69, 70, 71, 72, 73, 74, 75, 76, 77, 78, 79, 80, 81, 82, 83, 84, 85, 86, 87, 88, 89, 90, 48, 49, 50, 51, 52, 53, 54, 55, 56, 57, 46, 95, 45, 47]

def ASg : AFb := .seq (.ops [mv_ 3 0,
  po_ 4 (.lenS (.t 3)),
  po_ 5 (.bin 3 .leq (.t 4) (ci_ 60)),
  mv_ 6 5,
  ⟨some 7, .p (.mov (.t 0)), some ⟨6, true⟩⟩,
  ⟨some 8, .s (.call 90 [.t 7, .c (.string (str [60, 62, 10, 0]))]), some ⟨6, true⟩⟩,
  ⟨some 9, .p (.un .not (.t 8)), some ⟨6, true⟩⟩,
  po_ 10 (.pick (.t 6) (.t 9) (.c (.bool false))),
  mv_ 11 10,
  ⟨some 12, .p (.mov (.t 0)), some ⟨11, true⟩⟩,
  ⟨some 13, .s (.call 59 [.t 12, .c (.string (str [32]))]), some ⟨11, true⟩⟩,
  ⟨some 14, .p (.mov (.t 0)), some ⟨11, true⟩⟩,
  ⟨some 15, .p (.bin 9 .eql (.t 13) (.t 14)), some ⟨11, true⟩⟩,
  po_ 16 (.pick (.t 11) (.t 15) (.c (.bool false))),
  mv_ 2 16] [2])
 (.ret)
def AWH : AFb := .seq (.ops [po_ 2 (.mov (.c (.bool false)))] [0])
 ASg
def AWK : List VR := [.tmp 2]
theorem A3k : Tryz.f56.body.bind (trC Tryz.prog Tryz.f56.ntmps) = some (er AWH) := by kernel_rfl
theorem A3o : trR Tryz.prog Tryz.f56.results.toList = some AWK := by kernel_rfl
def AYi := AE7 ASg.eq_1
def A1A := AE7 AWH.eq_1
theorem A1q {K : TV → Prop} {e : Env} {H : List Ob} : res AWK e H K = res [.tmp 2] e H K := AE9 rfl
def AMt := (And.intro (And.intro @AYi @A1A) @A1q)
def A2u := AGG 17 Tryz.func56 A3k A3o rfl

def AKP : AFb := .seq (.draw 10 [po_ 52 (.fieldA 0 0 (.t 1)),
  po_ 53 (.load false 1 (.t 52)),
  po_ 54 (.bin 9 .add (.t 53) (.c (.string (str [32, 60])))),
  po_ 55 (.fieldA 1 1 (.t 1)),
  po_ 56 (.load false 1 (.t 55)),
  po_ 57 (.bin 9 .add (.t 54) (.t 56)),
  po_ 58 (.bin 9 .add (.t 57) (.c (.string (str [62, 32])))),
  po_ 59 (.fieldA 2 2 (.t 1)),
  po_ 60 (.load false 1 (.t 59)),
  so_ 61 (.call 58 [.t 60, .c (.int .i64 ((10 : Nat) : Int))]),
  po_ 62 (.bin 9 .add (.t 58) (.t 61)),
  po_ 63 (.bin 9 .add (.t 62) (.c (.string (str [32])))),
  mv_ 64 4,
  po_ 65 (.bin 9 .add (.t 63) (.t 64)),
  mv_ 66 6,
  po_ 67 (.bin 9 .add (.t 65) (.t 66)),
  mv_ 2 67,
  po_ 3 (.mov (.c (.bool true)))] [2, 3])
 (.ret)
def AKG : AFb := .seq (.ops [mv_ 43 5,
  po_ 44 (.bin 3 .quo (.t 43) (ci_ 60)),
  po_ 45 (.bin 3 .mul (.t 44) (ci_ 100)),
  po_ 46 (.bin 3 .add (ci_ 10000) (.t 45)),
  mv_ 47 5,
  po_ 48 (.bin 3 .rem (.t 47) (ci_ 60)),
  po_ 49 (.bin 3 .add (.t 46) (.t 48)),
  so_ 50 (.call 57 [.t 49]),
  po_ 51 (.slS (.t 50) (some (ci_ 1)) none),
  mv_ 6 51] [1, 4, 6])
 AKP
def AK7 : AFb := .seq (.seq (.ops [mv_ 39 5,
  po_ 40 (.bin 3 .lss (.t 39) (ci_ 0))] [1, 4, 5, 40])
 (.cond (.t 40)
 (.ops [mv_ 41 5,
   po_ 42 (.un .neg (.t 41)),
   po_ 4 (.mov (.c (.string (str [45])))),
   mv_ 5 42] [1, 4, 5])
 (.skip)))
 AKG
def AKC : AFb := .seq (.draw 2 [po_ 37 (.fieldA 3 3 (.t 1)),
  po_ 38 (.load false 1 (.t 37)),
  po_ 4 (.mov (.c (.string (str [43])))),
  mv_ 5 38] [1, 4, 5])
 AK7
def AKp : AFb := .seq (.seq (.ops [po_ 7 (.fieldA 0 0 (.t 1)),
  po_ 8 (.load false 1 (.t 7)),
  so_ 9 (.call 56 [.t 8]),
  po_ 10 (.un .not (.t 9)),
  mv_ 11 10,
  ⟨some 12, .p (.fieldA 1 1 (.t 1)), some ⟨11, false⟩⟩,
  ⟨some 13, .p (.load false 1 (.t 12)), some ⟨11, false⟩⟩,
  ⟨some 14, .s (.call 56 [.t 13]), some ⟨11, false⟩⟩,
  ⟨some 15, .p (.un .not (.t 14)), some ⟨11, false⟩⟩,
  po_ 16 (.pick (.t 11) (.c (.bool true)) (.t 15)),
  mv_ 17 16,
  ⟨some 18, .p (.fieldA 2 2 (.t 1)), some ⟨17, false⟩⟩,
  ⟨some 19, .p (.load false 1 (.t 18)), some ⟨17, false⟩⟩,
  ⟨some 20, .p (.bin 2 .lss (.t 19) (ci_ 0)), some ⟨17, false⟩⟩,
  po_ 21 (.pick (.t 17) (.c (.bool true)) (.t 20)),
  mv_ 22 21,
  ⟨some 23, .p (.fieldA 2 2 (.t 1)), some ⟨22, false⟩⟩,
  ⟨some 24, .p (.load false 1 (.t 23)), some ⟨22, false⟩⟩,
  ⟨some 25, .p (.bin 2 .gtr (.t 24) (ci_ 1099511627776)), some ⟨22, false⟩⟩,
  po_ 26 (.pick (.t 22) (.c (.bool true)) (.t 25)),
  mv_ 27 26,
  ⟨some 28, .p (.fieldA 3 3 (.t 1)), some ⟨27, false⟩⟩,
  ⟨some 29, .p (.load false 1 (.t 28)), some ⟨27, false⟩⟩,
  ⟨some 30, .p (.bin 3 .lss (.t 29) (.c (.int .i64 (-840)))), some ⟨27, false⟩⟩,
  po_ 31 (.pick (.t 27) (.c (.bool true)) (.t 30)),
  mv_ 32 31,
  ⟨some 33, .p (.fieldA 3 3 (.t 1)), some ⟨32, false⟩⟩,
  ⟨some 34, .p (.load false 1 (.t 33)), some ⟨32, false⟩⟩,
  ⟨some 35, .p (.bin 3 .gtr (.t 34) (ci_ 840)), some ⟨32, false⟩⟩,
  po_ 36 (.pick (.t 32) (.c (.bool true)) (.t 35))] [1, 36])
 (.cond (.t 36)
 (.seq (.ops [po_ 2 (.mov (.c (.string (str [])))),
   po_ 3 (.mov (.c (.bool false)))] [2, 3])
  (.ret))
 (.skip)))
 AKC
def ANX : AFb := .seq (.ops [so_ 1 (.box (.t 0)),
  po_ 2 (.mov (.c (.string (str [])))),
  po_ 3 (.mov (.c (.bool false)))] [1])
 AKp
def ANZ : List VR := [.tmp 2, .tmp 3]
theorem AWa : Tryz.f26.body.bind (trC Tryz.prog Tryz.f26.ntmps) = some (er ANX) := by kernel_rfl
theorem AVW : trR Tryz.prog Tryz.f26.results.toList = some ANZ := by kernel_rfl
def AJJ := AE7 AKP.eq_1
def AJO := AE7 AKG.eq_1
def AJy := AE7 AK7.eq_1
def AJD := AE7 AKC.eq_1
def AFN := AE7 AKp.eq_1
def AGa := AE7 ANX.eq_1
theorem AFR {K : TV → Prop} {e : Env} {H : List Ob} : res ANZ e H K = res [.tmp 2, .tmp 3] e H K := AE9 rfl
def AUX := AGG 68 Tryz.func26 AWa AVW rfl

def ALn : AFb := .seq (.draw 11 [po_ 91 (.load true 4 (.t 16)),
  mv_ 92 15,
  po_ 93 (.eqN 1 (.t 92) (.c .nilIface) false),
  mv_ 94 93,
  ⟨some 95, .p (.mov (.t 18)), some ⟨94, true⟩⟩,
  po_ 96 (.pick (.t 94) (.t 95) (.c (.bool false))),
  mv_ 97 96,
  ⟨some 98, .p (.mov (.t 17)), some ⟨97, true⟩⟩,
  ⟨some 99, .p (.mov (.t 0)), some ⟨97, true⟩⟩,
  ⟨some 100, .p (.bin 9 .eql (.t 98) (.t 99)), some ⟨97, true⟩⟩,
  po_ 101 (.pick (.t 97) (.t 100) (.c (.bool false))),
  ⟨none, .s (.store 4 (.t 2) (.t 91)), none⟩,
  mv_ 3 101] [2, 3])
 (.ret)
def ALx : AFb := .seq (.ops [po_ 87 (.load true 4 (.t 16)),
  so_ 88 (.call 26 [.t 87]),
  mv_ 86 88,
  po_ 89 (.ext 0 (.t 86)),
  po_ 90 (.ext 1 (.t 86)),
  mv_ 17 89,
  mv_ 18 90] [0, 2, 15, 16, 17, 18])
 ALn
def ALk : AFb := .seq (.seq (.ops [mv_ 79 10,
  po_ 80 (.idxS (.t 79) (ci_ 0)),
  po_ 81 (.bin 5 .eql (.t 80) (.c (.int .u8 ((45 : Nat) : Int))))] [0, 2, 15, 16, 81])
 (.cond (.t 81)
 (.ops [po_ 82 (.fieldA 3 3 (.t 16)),
   po_ 83 (.load false 1 (.t 82)),
   po_ 84 (.un .neg (.t 83)),
   po_ 85 (.fieldA 3 3 (.t 16)),
   ⟨none, .s (.store 1 (.t 85) (.t 84)), none⟩] [0, 2, 15, 16])
 (.skip)))
 ALx
def ALT : AFb := .seq (.ops [mv_ 68 4,
  mv_ 69 7,
  mv_ 70 12,
  mv_ 71 14,
  po_ 72 (.bin 163 .quo (.t 71) (.c (.int .u64 ((100 : Nat) : Int)))),
  po_ 73 (.bin 163 .mul (.t 72) (.c (.int .u64 ((60 : Nat) : Int)))),
  mv_ 74 14,
  po_ 75 (.bin 163 .rem (.t 74) (.c (.int .u64 ((100 : Nat) : Int)))),
  po_ 76 (.bin 163 .add (.t 73) (.t 75)),
  po_ 77 (.conv .i64 (.t 76)),
  ⟨some 78, .p (.build [.val (.string (str [])), .val (.string (str [])), .val (.int .i64 ((0 : Nat) : Int)), .val (.int .i64 ((0 : Nat) : Int))] [1, 1, 1, 1] [⟨0, .t 68⟩, ⟨1, .t 69⟩, ⟨2, .t 70⟩, ⟨3, .t 77⟩]), none⟩,
  so_ 16 (.alloc (.agg [.val (.string (str [])), .val (.string (str [])), .val (.int .i64 ((0 : Nat) : Int)), .val (.int .i64 ((0 : Nat) : Int))])),
  ⟨none, .s (.store 4 (.t 16) (.t 78)), none⟩] [0, 2, 10, 15, 16])
 ALk
def ALB : AFb := .seq (.ops [mv_ 63 10,
  po_ 64 (.slS (.t 63) (some (ci_ 1)) none),
  so_ 65 (.call 89 [.t 64, .c (.int .i64 ((10 : Nat) : Int)), .c (.int .i64 ((20 : Nat) : Int))]),
  mv_ 62 65,
  po_ 66 (.ext 0 (.t 62)),
  po_ 67 (.ext 1 (.t 62)),
  mv_ 14 66,
  mv_ 15 67] [0, 2, 4, 7, 10, 12, 14, 15])
 ALT
def ALD : AFb := .seq (.seq (.ops [mv_ 42 6,
  po_ 43 (.un .not (.t 42)),
  mv_ 44 43,
  ⟨some 45, .p (.mov (.t 8)), some ⟨44, false⟩⟩,
  ⟨some 46, .p (.un .not (.t 45)), some ⟨44, false⟩⟩,
  po_ 47 (.pick (.t 44) (.c (.bool true)) (.t 46)),
  mv_ 48 47,
  ⟨some 49, .p (.mov (.t 11)), some ⟨48, false⟩⟩,
  ⟨some 50, .p (.un .not (.t 49)), some ⟨48, false⟩⟩,
  po_ 51 (.pick (.t 48) (.c (.bool true)) (.t 50)),
  mv_ 52 51,
  ⟨some 53, .p (.mov (.t 13)), some ⟨52, false⟩⟩,
  ⟨some 54, .p (.un .not (.t 53)), some ⟨52, false⟩⟩,
  po_ 55 (.pick (.t 52) (.c (.bool true)) (.t 54)),
  mv_ 56 55,
  ⟨some 57, .p (.mov (.t 10)), some ⟨56, false⟩⟩,
  ⟨some 58, .p (.lenS (.t 57)), some ⟨56, false⟩⟩,
  ⟨some 59, .p (.bin 3 .neq (.t 58) (ci_ 5)), some ⟨56, false⟩⟩,
  po_ 60 (.pick (.t 56) (.c (.bool true)) (.t 59))] [0, 2, 4, 7, 10, 12, 60])
 (.cond (.t 60)
 (.seq (.ops [po_ 61 (.build [.val (.string (str [])), .val (.string (str [])), .val (.int .i64 ((0 : Nat) : Int)), .val (.int .i64 ((0 : Nat) : Int))] [1, 1, 1, 1] []),
   ⟨none, .s (.store 4 (.t 2) (.t 61)), none⟩,
   po_ 3 (.mov (.c (.bool false)))] [2, 3])
  (.ret))
 (.skip)))
 ALB
def ALX : AFb := .seq (.ops [mv_ 38 9,
  so_ 39 (.call 137 [.t 38]),
  mv_ 37 39,
  po_ 40 (.ext 0 (.t 37)),
  po_ 41 (.ext 1 (.t 37)),
  mv_ 12 40,
  mv_ 13 41] [0, 2, 4, 6, 7, 8, 10, 11, 12, 13])
 ALD
def ALo : AFb := .seq (.ops [mv_ 32 5,
  so_ 33 (.call 109 [.t 32, .c (.string (str [32]))]),
  mv_ 31 33,
  po_ 34 (.ext 0 (.t 31)),
  po_ 35 (.ext 1 (.t 31)),
  po_ 36 (.ext 2 (.t 31)),
  mv_ 9 34,
  mv_ 10 35,
  mv_ 11 36] [0, 2, 4, 6, 7, 8, 9, 10, 11])
 ALX
def ALS : AFb := .seq (.ops [mv_ 26 5,
  so_ 27 (.call 109 [.t 26, .c (.string (str [62, 32]))]),
  mv_ 25 27,
  po_ 28 (.ext 0 (.t 25)),
  po_ 29 (.ext 1 (.t 25)),
  po_ 30 (.ext 2 (.t 25)),
  mv_ 7 28,
  mv_ 5 29,
  mv_ 8 30] [0, 2, 4, 5, 6, 7, 8])
 ALo
def AKO : AFb := .seq (.ops [mv_ 20 0,
  so_ 21 (.call 109 [.t 20, .c (.string (str [32, 60]))]),
  mv_ 19 21,
  po_ 22 (.ext 0 (.t 19)),
  po_ 23 (.ext 1 (.t 19)),
  po_ 24 (.ext 2 (.t 19)),
  mv_ 4 22,
  mv_ 5 23,
  mv_ 6 24] [0, 2, 4, 5, 6])
 ALS
def AOV : AFb := .seq (.ops [so_ 2 (.alloc (.agg [.val (.string (str [])), .val (.string (str [])), .val (.int .i64 ((0 : Nat) : Int)), .val (.int .i64 ((0 : Nat) : Int))])),
  po_ 3 (.mov (.c (.bool false)))] [0, 2])
 AKO
def AOq : List VR := [.cell 2 true 4, .tmp 3]
theorem AYB : Tryz.f106.body.bind (trC Tryz.prog Tryz.f106.ntmps) = some (er AOV) := by kernel_rfl
theorem AXP : trR Tryz.prog Tryz.f106.results.toList = some AOq := by kernel_rfl
def AFI := AE7 ALn.eq_1
def AJX := AE7 ALx.eq_1
def ASA := AE7 ALk.eq_1
def ARS := AE7 ALT.eq_1
def ARp := AE7 ALB.eq_1
def AIx := AE7 ALD.eq_1
def ARm := AE7 ALX.eq_1
def ASe := AE7 ALo.eq_1
def AQL := AE7 ALS.eq_1
def AQD := AE7 AKO.eq_1
def AUG := AE7 AOV.eq_1
theorem AFu {K : TV → Prop} {e : Env} {H : List Ob} : res AOq e H K = res [.cell 2 true 4, .tmp 3] e H K := AE9 rfl
def AWp := AGG 102 Tryz.func106 AYB AXP rfl

def APG : AFb := .seq (.ops [po_ 2 (.mov (.c (.bool false)))] [0])
 (.seq (.ops [mv_ 3 0,
  po_ 4 (.lenS (.t 3)),
  po_ 5 (.bin 3 .leq (.t 4) (ci_ 2000)),
  mv_ 6 5,
  ⟨some 7, .p (.mov (.t 0)), some ⟨6, true⟩⟩,
  ⟨some 8, .s (.call 60 [.t 7, .c (.string (str [0]))]), some ⟨6, true⟩⟩,
  ⟨some 9, .p (.un .not (.t 8)), some ⟨6, true⟩⟩,
  po_ 10 (.pick (.t 6) (.t 9) (.c (.bool false))),
  mv_ 2 10] [2])
 (.ret))
def APE : List VR := [.tmp 2]
theorem AYV : Tryz.f28.body.bind (trC Tryz.prog Tryz.f28.ntmps) = some (er APG) := by kernel_rfl
theorem AYE : trR Tryz.prog Tryz.f28.results.toList = some APE := by kernel_rfl
def AWu := AE7 APG.eq_1
theorem AVP {K : TV → Prop} {e : Env} {H : List Ob} : res APE e H K = res [.tmp 2] e H K := AE9 rfl
def AK3 := (And.intro @AWu @AVP)
def AXM := AGG 11 Tryz.func28 AYV AYE rfl

def AKi : AFb := .seq (.seq (.ops [mv_ 27 8,
  po_ 28 (.un .not (.t 27)),
  mv_ 29 28,
  ⟨some 30, .p (.mov (.t 10)), some ⟨29, false⟩⟩,
  ⟨some 31, .p (.un .not (.t 30)), some ⟨29, false⟩⟩,
  po_ 32 (.pick (.t 29) (.c (.bool true)) (.t 31))] [0, 7, 9, 32])
 (.cond (.t 32)
 (.seq (.ops [po_ 4 (.mov (.c (.string (str [])))),
   po_ 5 (.mov (.c (.bool false)))] [4, 5])
  (.ret))
 (.skip)))
 (.seq (.ops [mv_ 33 0,
  mv_ 34 7,
  po_ 35 (.nilc (.t 33)),
  po_ 36 (.fieldA 0 0 (.t 35)),
  ⟨none, .s (.store 1 (.t 36) (.t 34)), none⟩] [9])
 (.seq (.ops [mv_ 37 9,
  mv_ 4 37,
  po_ 5 (.mov (.c (.bool true)))] [4, 5])
 (.ret)))
def AK0 : AFb := .seq (.ops [mv_ 21 6,
  mv_ 22 1,
  po_ 23 (.bin 9 .add (.t 22) (.c (.string (str [32])))),
  so_ 24 (.call 107 [.t 21, .t 23]),
  mv_ 20 24,
  po_ 25 (.ext 0 (.t 20)),
  po_ 26 (.ext 1 (.t 20)),
  mv_ 9 25,
  mv_ 10 26] [0, 7, 8, 9, 10])
 AKi
def AK4 : AFb := .seq (.ops [mv_ 12 0,
  po_ 13 (.nilc (.t 12)),
  po_ 14 (.fieldA 0 0 (.t 13)),
  po_ 15 (.load false 1 (.t 14)),
  so_ 16 (.call 109 [.t 15, .c (.string (str [10]))]),
  mv_ 11 16,
  po_ 17 (.ext 0 (.t 11)),
  po_ 18 (.ext 1 (.t 11)),
  po_ 19 (.ext 2 (.t 11)),
  mv_ 6 17,
  mv_ 7 18,
  mv_ 8 19] [0, 1, 6, 7, 8])
 AK0
def ANU : AFb := .seq (.ops [po_ 4 (.mov (.c (.string (str [])))),
  po_ 5 (.mov (.c (.bool false)))] [0, 1])
 AK4
def AN2 : List VR := [.tmp 4, .tmp 5]
theorem AV0 : Tryz.f79.body.bind (trC Tryz.prog Tryz.f79.ntmps) = some (er ANU) := by kernel_rfl
theorem AWs : trR Tryz.prog Tryz.f79.results.toList = some AN2 := by kernel_rfl
def AHV := AE7 AKi.eq_1
def AJK := AE7 AK0.eq_1
def AP0 := AE7 AK4.eq_1
def AT0 := AE7 ANU.eq_1
theorem AIW {K : TV → Prop} {e : Env} {H : List Ob} : res AN2 e H K = res [.tmp 4, .tmp 5] e H K := AE9 rfl
def AVe := AGG 38 Tryz.func79 AV0 AWs rfl

def AK6 : AFb := .seq (.ops [mv_ 13 0,
  mv_ 14 0,
  po_ 15 (.nilc (.t 14)),
  po_ 16 (.fieldA 1 1 (.t 15)),
  po_ 17 (.load false 1 (.t 16)),
  mv_ 18 17,
  ⟨some 19, .p (.mov (.t 6)), some ⟨18, false⟩⟩,
  ⟨some 20, .p (.un .not (.t 19)), some ⟨18, false⟩⟩,
  po_ 21 (.pick (.t 18) (.c (.bool true)) (.t 20)),
  po_ 22 (.nilc (.t 13)),
  po_ 23 (.fieldA 1 1 (.t 22)),
  ⟨none, .s (.store 1 (.t 23) (.t 21)), none⟩] [5])
 (.seq (.ops [mv_ 24 5,
  mv_ 4 24] [4])
 (.ret))
def AKA : AFb := .seq (.ops [mv_ 8 0,
  mv_ 9 1,
  so_ 10 (.call 79 [.t 8, .t 9]),
  mv_ 7 10,
  po_ 11 (.ext 0 (.t 7)),
  po_ 12 (.ext 1 (.t 7)),
  mv_ 5 11,
  mv_ 6 12] [0, 5, 6])
 AK6
def ANO : AFb := .seq (.ops [po_ 4 (.mov (.c (.string (str []))))] [0, 1])
 AKA
def ANL : List VR := [.tmp 4]
theorem AV9 : Tryz.f72.body.bind (trC Tryz.prog Tryz.f72.ntmps) = some (er ANO) := by kernel_rfl
theorem AWd : trR Tryz.prog Tryz.f72.results.toList = some ANL := by kernel_rfl
def AGF := AE7 AK6.eq_1
def AQA := AE7 AKA.eq_1
def AT5 := AE7 ANO.eq_1
theorem AHi {K : TV → Prop} {e : Env} {H : List Ob} : res ANL e H K = res [.tmp 4] e H K := AE9 rfl
def AVq := AGG 25 Tryz.func72 AV9 AWd rfl

def AMX : AFb := .seq (.ops [mv_ 12 0,
  mv_ 13 0,
  po_ 14 (.nilc (.t 13)),
  po_ 15 (.fieldA 1 1 (.t 14)),
  po_ 16 (.load false 1 (.t 15)),
  mv_ 17 16,
  ⟨some 18, .p (.mov (.t 6)), some ⟨17, false⟩⟩,
  ⟨some 19, .p (.eqN 1 (.t 18) (.c .nilIface) true), some ⟨17, false⟩⟩,
  po_ 20 (.pick (.t 17) (.c (.bool true)) (.t 19)),
  po_ 21 (.nilc (.t 12)),
  po_ 22 (.fieldA 1 1 (.t 21)),
  ⟨none, .s (.store 1 (.t 22) (.t 20)), none⟩] [4, 5])
 (.seq (.ops [po_ 23 (.load true 20 (.t 5)),
  ⟨none, .s (.store 20 (.t 4) (.t 23)), none⟩] [4])
 (.ret))
def AMC : AFb := .seq (.ops [mv_ 8 1,
  so_ 9 (.call 105 [.t 8]),
  mv_ 7 9,
  po_ 10 (.ext 0 (.t 7)),
  po_ 11 (.ext 1 (.t 7)),
  so_ 5 (.alloc (.arr 20 1 [.val (.int .u8 ((0 : Nat) : Int)), .val (.int .u8 ((0 : Nat) : Int)), .val (.int .u8 ((0 : Nat) : Int)), .val (.int .u8 ((0 : Nat) : Int)), .val (.int .u8 ((0 : Nat) : Int)), .val (.int .u8 ((0 : Nat) : Int)), .val (.int .u8 ((0 : Nat) : Int)), .val (.int .u8 ((0 : Nat) : Int)), .val (.int .u8 ((0 : Nat) : Int)), .val (.int .u8 ((0 : Nat) : Int)), .val (.int .u8 ((0 : Nat) : Int)), .val (.int .u8 ((0 : Nat) : Int)), .val (.int .u8 ((0 : Nat) : Int)), .val (.int .u8 ((0 : Nat) : Int)), .val (.int .u8 ((0 : Nat) : Int)), .val (.int .u8 ((0 : Nat) : Int)), .val (.int .u8 ((0 : Nat) : Int)), .val (.int .u8 ((0 : Nat) : Int)), .val (.int .u8 ((0 : Nat) : Int)), .val (.int .u8 ((0 : Nat) : Int))])),
  ⟨none, .s (.store 20 (.t 5) (.t 10)), none⟩,
  mv_ 6 11] [0, 4, 5, 6])
 AMX
def AO6 : AFb := .seq (.ops [so_ 4 (.alloc (.arr 20 1 [.val (.int .u8 ((0 : Nat) : Int)), .val (.int .u8 ((0 : Nat) : Int)), .val (.int .u8 ((0 : Nat) : Int)), .val (.int .u8 ((0 : Nat) : Int)), .val (.int .u8 ((0 : Nat) : Int)), .val (.int .u8 ((0 : Nat) : Int)), .val (.int .u8 ((0 : Nat) : Int)), .val (.int .u8 ((0 : Nat) : Int)), .val (.int .u8 ((0 : Nat) : Int)), .val (.int .u8 ((0 : Nat) : Int)), .val (.int .u8 ((0 : Nat) : Int)), .val (.int .u8 ((0 : Nat) : Int)), .val (.int .u8 ((0 : Nat) : Int)), .val (.int .u8 ((0 : Nat) : Int)), .val (.int .u8 ((0 : Nat) : Int)), .val (.int .u8 ((0 : Nat) : Int)), .val (.int .u8 ((0 : Nat) : Int)), .val (.int .u8 ((0 : Nat) : Int)), .val (.int .u8 ((0 : Nat) : Int)), .val (.int .u8 ((0 : Nat) : Int))]))] [0, 1, 4])
 AMC
def APl : List VR := [.cell 4 true 20]
theorem AZb : Tryz.f71.body.bind (trC Tryz.prog Tryz.f71.ntmps) = some (er AO6) := by kernel_rfl
theorem AZB : trR Tryz.prog Tryz.f71.results.toList = some APl := by kernel_rfl
def AS1 := AE7 AMX.eq_1
def ATh := AE7 AMC.eq_1
def AVM := AE7 AO6.eq_1
theorem AVZ {K : TV → Prop} {e : Env} {H : List Ob} : res APl e H K = res [.cell 4 true 20] e H K := AE9 rfl
def AXB := AGG 24 Tryz.func71 AZb AZB rfl

def AJz : AFb := .seq (.ops [mv_ 14 0,
  mv_ 15 0,
  po_ 16 (.nilc (.t 15)),
  po_ 17 (.fieldA 1 1 (.t 16)),
  po_ 18 (.load false 1 (.t 17)),
  mv_ 19 18,
  ⟨some 20, .p (.mov (.t 6)), some ⟨19, false⟩⟩,
  ⟨some 21, .p (.un .not (.t 20)), some ⟨19, false⟩⟩,
  po_ 22 (.pick (.t 19) (.c (.bool true)) (.t 21)),
  po_ 23 (.nilc (.t 14)),
  po_ 24 (.fieldA 1 1 (.t 23)),
  ⟨none, .s (.store 1 (.t 24) (.t 22)), none⟩] [4, 5])
 (.seq (.ops [po_ 25 (.load true 4 (.t 5)),
  ⟨none, .s (.store 4 (.t 4) (.t 25)), none⟩] [4])
 (.ret))
def AJH : AFb := .seq (.ops [mv_ 8 0,
  mv_ 9 1,
  so_ 10 (.call 72 [.t 8, .t 9]),
  so_ 11 (.call 106 [.t 10]),
  mv_ 7 11,
  po_ 12 (.ext 0 (.t 7)),
  po_ 13 (.ext 1 (.t 7)),
  so_ 5 (.alloc (.agg [.val (.string (str [])), .val (.string (str [])), .val (.int .i64 ((0 : Nat) : Int)), .val (.int .i64 ((0 : Nat) : Int))])),
  ⟨none, .s (.store 4 (.t 5) (.t 12)), none⟩,
  mv_ 6 13] [0, 4, 5, 6])
 AJz
def ALy : AFb := .seq (.ops [so_ 4 (.alloc (.agg [.val (.string (str [])), .val (.string (str [])), .val (.int .i64 ((0 : Nat) : Int)), .val (.int .i64 ((0 : Nat) : Int))]))] [0, 1, 4])
 AJH
def ALM : List VR := [.cell 4 true 4]
theorem ATX : Tryz.f74.body.bind (trC Tryz.prog Tryz.f74.ntmps) = some (er ALy) := by kernel_rfl
theorem AT2 : trR Tryz.prog Tryz.f74.results.toList = some ALM := by kernel_rfl
def AOu := AE7 AJz.eq_1
def AOP := AE7 AJH.eq_1
def AR7 := AE7 ALy.eq_1
theorem AR3 {K : TV → Prop} {e : Env} {H : List Ob} : res ALM e H K = res [.cell 4 true 4] e H K := AE9 rfl
def ATl := AGG 26 Tryz.func74 ATX AT2 rfl

def AJm : AFb := .seq (.ops [mv_ 13 0,
  mv_ 14 0,
  po_ 15 (.nilc (.t 14)),
  po_ 16 (.fieldA 1 1 (.t 15)),
  po_ 17 (.load false 1 (.t 16)),
  mv_ 18 17,
  ⟨some 19, .p (.mov (.t 4)), some ⟨18, false⟩⟩,
  ⟨some 20, .p (.un .not (.t 19)), some ⟨18, false⟩⟩,
  po_ 21 (.pick (.t 18) (.c (.bool true)) (.t 20)),
  mv_ 22 21,
  ⟨some 23, .p (.mov (.t 3)), some ⟨22, false⟩⟩,
  ⟨some 24, .s (.call 28 [.t 23]), some ⟨22, false⟩⟩,
  ⟨some 25, .p (.un .not (.t 24)), some ⟨22, false⟩⟩,
  po_ 26 (.pick (.t 22) (.c (.bool true)) (.t 25)),
  po_ 27 (.nilc (.t 13)),
  po_ 28 (.fieldA 1 1 (.t 27)),
  ⟨none, .s (.store 1 (.t 28) (.t 26)), none⟩] [3])
 (.seq (.ops [mv_ 29 3,
  mv_ 2 29] [2])
 (.ret))
def AJn : AFb := .seq (.ops [mv_ 6 0,
  po_ 7 (.nilc (.t 6)),
  po_ 8 (.fieldA 0 0 (.t 7)),
  po_ 9 (.load false 1 (.t 8)),
  so_ 10 (.call 107 [.t 9, .c (.string (str [10]))]),
  mv_ 5 10,
  po_ 11 (.ext 0 (.t 5)),
  po_ 12 (.ext 1 (.t 5)),
  mv_ 3 11,
  mv_ 4 12] [0, 3, 4])
 AJm
def AKM : AFb := .seq (.ops [po_ 2 (.mov (.c (.string (str []))))] [0])
 AJn
def AKv : List VR := [.tmp 2]
theorem ASX : Tryz.f75.body.bind (trC Tryz.prog Tryz.f75.ntmps) = some (er AKM) := by kernel_rfl
theorem ASS : trR Tryz.prog Tryz.f75.results.toList = some AKv := by kernel_rfl
def AI2 := AE7 AJm.eq_1
def AOh := AE7 AJn.eq_1
def AQe := AE7 AKM.eq_1
theorem AJC {K : TV → Prop} {e : Env} {H : List Ob} : res AKv e H K = res [.tmp 2] e H K := AE9 rfl
def AQQ := AGG 30 Tryz.func75 ASX ASS rfl

def ARK : AFb := .seq (.block 1 (.draw 6 [mv_ 11 0,
  mv_ 12 4,
  po_ 13 (.idxA 1 (.t 11) (.t 12)),
  po_ 14 (.load false 1 (.t 13)),
  po_ 15 (.bin 9 .add (.t 14) (.c (.string (str [32])))),
  mv_ 16 0,
  mv_ 17 4,
  po_ 18 (.bin 3 .add (.t 17) (ci_ 1)),
  po_ 19 (.idxA 1 (.t 16) (.t 18)),
  po_ 20 (.load false 1 (.t 19)),
  po_ 21 (.bin 9 .add (.t 15) (.t 20)),
  po_ 22 (.bin 9 .add (.t 21) (.c (.string (str [10])))),
  so_ 23 (.call 61 [.t 3, .t 22])] [0, 3, 4]))
 (.ops [mv_ 9 4,
  po_ 10 (.bin 3 .add (.t 9) (ci_ 2)),
  mv_ 4 10] [0, 3, 4])
def AR1 : AFb := .seq (.seq (.ops [mv_ 5 4,
  mv_ 6 0,
  po_ 7 (.lenV (.t 6)),
  po_ 8 (.bin 3 .lss (.t 5) (.t 7))] [0, 3, 4, 8])
 (.cond (.t 8)
 (.skip)
 (.exit 0)))
 ARK
def ARg : AFb := .block 0 (.ownT 3 [(1, 1)] 5 (.loop [0, 3, 4] AR1))
def ARH : AFb := .seq (.ops [so_ 24 (.bstr 62 (.t 3)),
  mv_ 2 24] [2])
 (.ret)
def ARf : AFb := .seq (.seq (.ops [po_ 4 (.mov (ci_ 0))] [0, 3, 4])
 ARg)
 ARH
def AQG : AFb := .seq (.ops [so_ 3 (.allocT (.agg [.val (.pointer none), .val (.slice none 0 0)]) 118)] [0, 3])
 ARf
def AWV : AFb := .seq (.ops [po_ 2 (.mov (.c (.string (str []))))] [0])
 AQG
def AWD : List VR := [.tmp 2]
theorem A27 : Tryz.f29.body.bind (trC Tryz.prog Tryz.f29.ntmps) = some (er AWV) := by kernel_rfl
theorem A3m : trR Tryz.prog Tryz.f29.results.toList = some AWD := by kernel_rfl
def AYD := AE7 ARK.eq_1
def AYc := AE7 AR1.eq_1
def AXg := AE7 ARg.eq_1
def AXY := AE7 ARH.eq_1
def AYq := AE7 ARf.eq_1
def AYe := AE7 AQG.eq_1
def A1L := AE7 AWV.eq_1
theorem A1H {K : TV → Prop} {e : Env} {H : List Ob} : res AWD e H K = res [.tmp 2] e H K := AE9 rfl
def APX := (And.intro (And.intro (And.intro @AYD @AYc) (And.intro @AXg @AXY)) (And.intro (And.intro @AYq @AYe) (And.intro @A1L @A1H)))
def A16 := AGG 25 Tryz.func29 A27 A3m rfl

def ARi : AFb := .seq (.ops [mv_ 3 0,
  po_ 4 (.lenS (.t 3)),
  po_ 5 (.bin 3 .gtr (.t 4) (ci_ 0)),
  mv_ 6 5,
  ⟨some 7, .p (.mov (.t 0)), some ⟨6, true⟩⟩,
  ⟨some 8, .p (.lenS (.t 7)), some ⟨6, true⟩⟩,
  ⟨some 9, .p (.bin 3 .leq (.t 8) (ci_ 60)), some ⟨6, true⟩⟩,
  po_ 10 (.pick (.t 6) (.t 9) (.c (.bool false))),
  mv_ 11 10,
  ⟨some 12, .p (.mov (.t 0)), some ⟨11, true⟩⟩,
  ⟨some 13, .s (.call 59 [.t 12, .c (.string AZy)]), some ⟨11, true⟩⟩,
  ⟨some 14, .p (.bin 9 .eql (.t 13) (.c (.string (str [])))), some ⟨11, true⟩⟩,
  po_ 15 (.pick (.t 11) (.t 14) (.c (.bool false))),
  mv_ 2 15] [2])
 (.ret)
def AWE : AFb := .seq (.ops [po_ 2 (.mov (.c (.bool false)))] [0])
 ARi
def AWx : List VR := [.tmp 2]
theorem A24 : Tryz.f27.body.bind (trC Tryz.prog Tryz.f27.ntmps) = some (er AWE) := by kernel_rfl
theorem A3D : trR Tryz.prog Tryz.f27.results.toList = some AWx := by kernel_rfl
def AYm := AE7 ARi.eq_1
def A1P := AE7 AWE.eq_1
theorem A1p {K : TV → Prop} {e : Env} {H : List Ob} : res AWx e H K = res [.tmp 2] e H K := AE9 rfl
def AMr := (And.intro (And.intro @AYm @A1P) @A1p)
def A17 := AGG 16 Tryz.func27 A24 A3D rfl

def ANW : AFb := .seq (.draw 12 [po_ 39 (.fieldA 0 0 (.t 1)),
  po_ 40 (.load true 20 (.t 39)),
  so_ 41 (.call 30 [.t 40]),
  mv_ 42 4,
  po_ 43 (.fieldA 2 21 (.t 1)),
  po_ 44 (.load false 1 (.t 43)),
  mv_ 45 6,
  ⟨some 46, .p (.bsl 1 8 (.val (.string (str []))) [⟨0, .c (.string (str [111, 98, 106, 101, 99, 116]))⟩, ⟨1, .t 41⟩, ⟨2, .c (.string (str [116, 121, 112, 101]))⟩, ⟨3, .t 42⟩, ⟨4, .c (.string (str [116, 97, 103]))⟩, ⟨5, .t 44⟩, ⟨6, .c (.string (str [116, 97, 103, 103, 101, 114]))⟩, ⟨7, .t 45⟩]), none⟩,
  so_ 47 (.call 29 [.t 46]),
  po_ 48 (.bin 9 .add (.t 47) (.c (.string (str [10])))),
  po_ 49 (.fieldA 4 26 (.t 1)),
  po_ 50 (.load false 1 (.t 49)),
  po_ 51 (.bin 9 .add (.t 48) (.t 50)),
  so_ 52 (.s2b (.t 51)),
  mv_ 2 52,
  po_ 3 (.mov (.c .nilIface))] [2, 3])
 (.ret)
def ANz : AFb := .seq (.seq (.ops [mv_ 20 5,
  po_ 21 (.un .not (.t 20)),
  mv_ 22 21,
  ⟨some 23, .p (.mov (.t 7)), some ⟨22, false⟩⟩,
  ⟨some 24, .p (.un .not (.t 23)), some ⟨22, false⟩⟩,
  po_ 25 (.pick (.t 22) (.c (.bool true)) (.t 24)),
  mv_ 26 25,
  ⟨some 27, .p (.fieldA 2 21 (.t 1)), some ⟨26, false⟩⟩,
  ⟨some 28, .p (.load false 1 (.t 27)), some ⟨26, false⟩⟩,
  ⟨some 29, .s (.call 27 [.t 28]), some ⟨26, false⟩⟩,
  ⟨some 30, .p (.un .not (.t 29)), some ⟨26, false⟩⟩,
  po_ 31 (.pick (.t 26) (.c (.bool true)) (.t 30)),
  mv_ 32 31,
  ⟨some 33, .p (.fieldA 4 26 (.t 1)), some ⟨32, false⟩⟩,
  ⟨some 34, .p (.load false 1 (.t 33)), some ⟨32, false⟩⟩,
  ⟨some 35, .s (.call 28 [.t 34]), some ⟨32, false⟩⟩,
  ⟨some 36, .p (.un .not (.t 35)), some ⟨32, false⟩⟩,
  po_ 37 (.pick (.t 32) (.c (.bool true)) (.t 36))] [1, 4, 6, 37])
 (.cond (.t 37)
 (.seq (.ops [po_ 38 (.iface 34 (ci_ 23)),
   po_ 2 (.mov (.c (.slice none 0 0))),
   mv_ 3 38] [2, 3])
  (.ret))
 (.skip)))
 ANW
def AN1 : AFb := .seq (.ops [po_ 15 (.fieldA 3 22 (.t 1)),
  po_ 16 (.load true 4 (.t 15)),
  so_ 17 (.call 26 [.t 16]),
  mv_ 14 17,
  po_ 18 (.ext 0 (.t 14)),
  po_ 19 (.ext 1 (.t 14)),
  mv_ 6 18,
  mv_ 7 19] [1, 4, 5, 6, 7])
 ANz
def ANy : AFb := .seq (.ops [po_ 9 (.fieldA 1 20 (.t 1)),
  po_ 10 (.load false 1 (.t 9)),
  so_ 11 (.call 25 [.t 10]),
  mv_ 8 11,
  po_ 12 (.ext 0 (.t 8)),
  po_ 13 (.ext 1 (.t 8)),
  mv_ 4 12,
  mv_ 5 13] [1, 4, 5])
 AN1
def ARh : AFb := .seq (.ops [so_ 1 (.box (.t 0)),
  po_ 2 (.mov (.c (.slice none 0 0))),
  po_ 3 (.mov (.c .nilIface))] [1])
 ANy
def AR2 : List VR := [.tmp 2, .tmp 3]
theorem A0j : Tryz.f7.body.bind (trC Tryz.prog Tryz.f7.ntmps) = some (er ARh) := by kernel_rfl
theorem A0l : trR Tryz.prog Tryz.f7.results.toList = some AR2 := by kernel_rfl
def AT6 := AE7 ANW.eq_1
def AIV := AE7 ANz.eq_1
def ALF := AE7 AN1.eq_1
def ALR := AE7 ANy.eq_1
def AOF := AE7 ARh.eq_1
theorem AHc {K : TV → Prop} {e : Env} {H : List Ob} : res AR2 e H K = res [.tmp 2, .tmp 3] e H K := AE9 rfl
def AZs := AGG 53 Tryz.func7 A0j A0l rfl

def AOJ : AFb := .seq (.seq (.ops [mv_ 34 4,
  po_ 35 (.nilc (.t 34)),
  po_ 36 (.fieldA 1 1 (.t 35)),
  po_ 37 (.load false 1 (.t 36)),
  mv_ 38 37,
  ⟨some 39, .p (.mov (.t 7)), some ⟨38, false⟩⟩,
  ⟨some 40, .p (.un .not (.t 39)), some ⟨38, false⟩⟩,
  po_ 41 (.pick (.t 38) (.c (.bool true)) (.t 40)),
  mv_ 42 41,
  ⟨some 43, .p (.fieldA 2 21 (.t 5)), some ⟨42, false⟩⟩,
  ⟨some 44, .p (.load false 1 (.t 43)), some ⟨42, false⟩⟩,
  ⟨some 45, .s (.call 27 [.t 44]), some ⟨42, false⟩⟩,
  ⟨some 46, .p (.un .not (.t 45)), some ⟨42, false⟩⟩,
  po_ 47 (.pick (.t 42) (.c (.bool true)) (.t 46))] [2, 5, 47])
 (.cond (.t 47)
 (.seq (.ops [po_ 48 (.build [.arr 20 1 [.val (.int .u8 ((0 : Nat) : Int)), .val (.int .u8 ((0 : Nat) : Int)), .val (.int .u8 ((0 : Nat) : Int)), .val (.int .u8 ((0 : Nat) : Int)), .val (.int .u8 ((0 : Nat) : Int)), .val (.int .u8 ((0 : Nat) : Int)), .val (.int .u8 ((0 : Nat) : Int)), .val (.int .u8 ((0 : Nat) : Int)), .val (.int .u8 ((0 : Nat) : Int)), .val (.int .u8 ((0 : Nat) : Int)), .val (.int .u8 ((0 : Nat) : Int)), .val (.int .u8 ((0 : Nat) : Int)), .val (.int .u8 ((0 : Nat) : Int)), .val (.int .u8 ((0 : Nat) : Int)), .val (.int .u8 ((0 : Nat) : Int)), .val (.int .u8 ((0 : Nat) : Int)), .val (.int .u8 ((0 : Nat) : Int)), .val (.int .u8 ((0 : Nat) : Int)), .val (.int .u8 ((0 : Nat) : Int)), .val (.int .u8 ((0 : Nat) : Int))], .val (.int .i64 ((0 : Nat) : Int)), .val (.string (str [])), .agg [.val (.string (str [])), .val (.string (str [])), .val (.int .i64 ((0 : Nat) : Int)), .val (.int .i64 ((0 : Nat) : Int))], .val (.string (str []))] [20, 1, 1, 4, 1] []),
   po_ 49 (.iface 34 (ci_ 23)),
   ⟨none, .s (.store 27 (.t 2) (.t 48)), none⟩,
   mv_ 3 49] [2, 3])
  (.ret))
 (.skip)))
 (.seq (.ops [po_ 50 (.load true 27 (.t 5)),
  ⟨none, .s (.store 27 (.t 2) (.t 50)), none⟩,
  po_ 3 (.mov (.c .nilIface))] [2, 3])
 (.ret))
def AOA : AFb := .seq (.ops [mv_ 31 4,
  so_ 32 (.call 75 [.t 31]),
  po_ 33 (.fieldA 4 26 (.t 5)),
  ⟨none, .s (.store 1 (.t 33) (.t 32)), none⟩] [2, 4, 5, 7])
 AOJ
def AOQ : AFb := .seq (.ops [mv_ 28 4,
  so_ 29 (.call 74 [.t 28, .c (.string (str [116, 97, 103, 103, 101, 114]))]),
  po_ 30 (.fieldA 3 22 (.t 5)),
  ⟨none, .s (.store 4 (.t 30) (.t 29)), none⟩] [2, 4, 5, 7])
 AOA
def AOC : AFb := .seq (.ops [mv_ 23 6,
  mv_ 24 4,
  so_ 25 (.call 72 [.t 24, .c (.string (str [116, 97, 103]))]),
  po_ 26 (.fieldA 1 20 (.t 5)),
  ⟨none, .s (.store 1 (.t 26) (.t 23)), none⟩,
  po_ 27 (.fieldA 2 21 (.t 5)),
  ⟨none, .s (.store 1 (.t 27) (.t 25)), none⟩] [2, 4, 5, 7])
 AOQ
def AOz : AFb := .seq (.ops [mv_ 18 4,
  so_ 19 (.call 72 [.t 18, .c (.string (str [116, 121, 112, 101]))]),
  so_ 20 (.call 73 [.t 19]),
  mv_ 17 20,
  po_ 21 (.ext 0 (.t 17)),
  po_ 22 (.ext 1 (.t 17)),
  mv_ 6 21,
  mv_ 7 22] [2, 4, 5, 6, 7])
 AOC
def AOw : AFb := .seq (.ops [mv_ 12 4,
  mv_ 13 4,
  so_ 14 (.call 72 [.t 13, .c (.string (str [111, 98, 106, 101, 99, 116]))]),
  so_ 15 (.call 71 [.t 12, .t 14]),
  ⟨some 16, .p (.build [.arr 20 1 [.val (.int .u8 ((0 : Nat) : Int)), .val (.int .u8 ((0 : Nat) : Int)), .val (.int .u8 ((0 : Nat) : Int)), .val (.int .u8 ((0 : Nat) : Int)), .val (.int .u8 ((0 : Nat) : Int)), .val (.int .u8 ((0 : Nat) : Int)), .val (.int .u8 ((0 : Nat) : Int)), .val (.int .u8 ((0 : Nat) : Int)), .val (.int .u8 ((0 : Nat) : Int)), .val (.int .u8 ((0 : Nat) : Int)), .val (.int .u8 ((0 : Nat) : Int)), .val (.int .u8 ((0 : Nat) : Int)), .val (.int .u8 ((0 : Nat) : Int)), .val (.int .u8 ((0 : Nat) : Int)), .val (.int .u8 ((0 : Nat) : Int)), .val (.int .u8 ((0 : Nat) : Int)), .val (.int .u8 ((0 : Nat) : Int)), .val (.int .u8 ((0 : Nat) : Int)), .val (.int .u8 ((0 : Nat) : Int)), .val (.int .u8 ((0 : Nat) : Int))], .val (.int .i64 ((0 : Nat) : Int)), .val (.string (str [])), .agg [.val (.string (str [])), .val (.string (str [])), .val (.int .i64 ((0 : Nat) : Int)), .val (.int .i64 ((0 : Nat) : Int))], .val (.string (str []))] [20, 1, 1, 4, 1] [⟨0, .t 15⟩]), none⟩,
  so_ 5 (.alloc (.agg [.arr 20 1 [.val (.int .u8 ((0 : Nat) : Int)), .val (.int .u8 ((0 : Nat) : Int)), .val (.int .u8 ((0 : Nat) : Int)), .val (.int .u8 ((0 : Nat) : Int)), .val (.int .u8 ((0 : Nat) : Int)), .val (.int .u8 ((0 : Nat) : Int)), .val (.int .u8 ((0 : Nat) : Int)), .val (.int .u8 ((0 : Nat) : Int)), .val (.int .u8 ((0 : Nat) : Int)), .val (.int .u8 ((0 : Nat) : Int)), .val (.int .u8 ((0 : Nat) : Int)), .val (.int .u8 ((0 : Nat) : Int)), .val (.int .u8 ((0 : Nat) : Int)), .val (.int .u8 ((0 : Nat) : Int)), .val (.int .u8 ((0 : Nat) : Int)), .val (.int .u8 ((0 : Nat) : Int)), .val (.int .u8 ((0 : Nat) : Int)), .val (.int .u8 ((0 : Nat) : Int)), .val (.int .u8 ((0 : Nat) : Int)), .val (.int .u8 ((0 : Nat) : Int))], .val (.int .i64 ((0 : Nat) : Int)), .val (.string (str [])), .agg [.val (.string (str [])), .val (.string (str [])), .val (.int .i64 ((0 : Nat) : Int)), .val (.int .i64 ((0 : Nat) : Int))], .val (.string (str []))])),
  ⟨none, .s (.store 27 (.t 5) (.t 16)), none⟩] [2, 4, 5])
 AOz
def AOR : AFb := .seq (.ops [mv_ 8 0,
  po_ 9 (.b2s (.t 8)),
  ⟨some 10, .p (.build [.val (.string (str [])), .val (.bool false)] [1, 1] [⟨0, .t 9⟩]), none⟩,
  so_ 11 (.box (.t 10)),
  mv_ 4 11] [2, 4])
 AOw
def ATJ : AFb := .seq (.ops [so_ 2 (.alloc (.agg [.arr 20 1 [.val (.int .u8 ((0 : Nat) : Int)), .val (.int .u8 ((0 : Nat) : Int)), .val (.int .u8 ((0 : Nat) : Int)), .val (.int .u8 ((0 : Nat) : Int)), .val (.int .u8 ((0 : Nat) : Int)), .val (.int .u8 ((0 : Nat) : Int)), .val (.int .u8 ((0 : Nat) : Int)), .val (.int .u8 ((0 : Nat) : Int)), .val (.int .u8 ((0 : Nat) : Int)), .val (.int .u8 ((0 : Nat) : Int)), .val (.int .u8 ((0 : Nat) : Int)), .val (.int .u8 ((0 : Nat) : Int)), .val (.int .u8 ((0 : Nat) : Int)), .val (.int .u8 ((0 : Nat) : Int)), .val (.int .u8 ((0 : Nat) : Int)), .val (.int .u8 ((0 : Nat) : Int)), .val (.int .u8 ((0 : Nat) : Int)), .val (.int .u8 ((0 : Nat) : Int)), .val (.int .u8 ((0 : Nat) : Int)), .val (.int .u8 ((0 : Nat) : Int))], .val (.int .i64 ((0 : Nat) : Int)), .val (.string (str [])), .agg [.val (.string (str [])), .val (.string (str [])), .val (.int .i64 ((0 : Nat) : Int)), .val (.int .i64 ((0 : Nat) : Int))], .val (.string (str []))])),
  po_ 3 (.mov (.c .nilIface))] [0, 2])
 AOR
def ATt : List VR := [.cell 2 true 27, .tmp 3]
theorem A1K : Tryz.f38.body.bind (trC Tryz.prog Tryz.f38.ntmps) = some (er ATJ) := by kernel_rfl
theorem A1M : trR Tryz.prog Tryz.f38.results.toList = some ATt := by kernel_rfl
def AJc := AE7 AOJ.eq_1
def AVu := AE7 AOA.eq_1
def AU1 := AE7 AOQ.eq_1
def AUa := AE7 AOC.eq_1
def AUv := AE7 AOz.eq_1
def AUE := AE7 AOw.eq_1
def AUi := AE7 AOR.eq_1
def AYR := AE7 ATJ.eq_1
theorem AI1 {K : TV → Prop} {e : Env} {H : List Ob} : res ATt e H K = res [.cell 2 true 27, .tmp 3] e H K := AE9 rfl
def A0O := AGG 51 Tryz.func38 A1K A1M rfl

def AU4 : AFb := .seq (.block 1 (.seq (.ops [mv_ 13 0,
  mv_ 14 3,
  po_ 15 (.idxS (.t 13) (.t 14)),
  po_ 16 (.bin 5 .eql (.t 15) (.c (.int .u8 ((60 : Nat) : Int)))),
  mv_ 17 16,
  ⟨some 18, .p (.mov (.t 0)), some ⟨17, false⟩⟩,
  ⟨some 19, .p (.mov (.t 3)), some ⟨17, false⟩⟩,
  ⟨some 20, .p (.idxS (.t 18) (.t 19)), some ⟨17, false⟩⟩,
  ⟨some 21, .p (.bin 5 .eql (.t 20) (.c (.int .u8 ((62 : Nat) : Int)))), some ⟨17, false⟩⟩,
  po_ 22 (.pick (.t 17) (.c (.bool true)) (.t 21)),
  mv_ 23 22,
  ⟨some 24, .p (.mov (.t 0)), some ⟨23, false⟩⟩,
  ⟨some 25, .p (.mov (.t 3)), some ⟨23, false⟩⟩,
  ⟨some 26, .p (.idxS (.t 24) (.t 25)), some ⟨23, false⟩⟩,
  ⟨some 27, .p (.bin 5 .eql (.t 26) (.c (.int .u8 ((10 : Nat) : Int)))), some ⟨23, false⟩⟩,
  po_ 28 (.pick (.t 23) (.c (.bool true)) (.t 27)),
  mv_ 29 28,
  ⟨some 30, .p (.mov (.t 0)), some ⟨29, false⟩⟩,
  ⟨some 31, .p (.mov (.t 3)), some ⟨29, false⟩⟩,
  ⟨some 32, .p (.idxS (.t 30) (.t 31)), some ⟨29, false⟩⟩,
  ⟨some 33, .p (.bin 5 .eql (.t 32) (.c (.int .u8 ((0 : Nat) : Int)))), some ⟨29, false⟩⟩,
  po_ 34 (.pick (.t 29) (.c (.bool true)) (.t 33))] [0, 3, 34])
 (.cond (.t 34)
 (.seq (.ops [po_ 2 (.mov (.c (.bool false)))] [2])
  (.ret))
 (.skip))))
 (.ops [mv_ 11 3,
  po_ 12 (.bin 3 .add (.t 11) (ci_ 1)),
  mv_ 3 12] [0, 3])
def AUH : AFb := .seq (.seq (.ops [mv_ 7 3,
  mv_ 8 0,
  po_ 9 (.lenS (.t 8)),
  po_ 10 (.bin 3 .lss (.t 7) (.t 9))] [0, 3, 10])
 (.cond (.t 10)
 (.skip)
 (.exit 0)))
 AU4
def AUy : AFb := .block 0 (.loop [0, 3] AUH)
def AUj : AFb := .seq (.ops [mv_ 35 0,
  po_ 36 (.lenS (.t 35)),
  po_ 37 (.bin 3 .eql (.t 36) (ci_ 0)),
  mv_ 38 37,
  ⟨some 39, .p (.mov (.t 0)), some ⟨38, false⟩⟩,
  ⟨some 40, .p (.idxS (.t 39) (ci_ 0)), some ⟨38, false⟩⟩,
  ⟨some 41, .p (.bin 5 .neq (.t 40) (.c (.int .u8 ((32 : Nat) : Int)))), some ⟨38, false⟩⟩,
  ⟨some 42, .p (.mov (.t 41)), some ⟨38, false⟩⟩,
  ⟨some 43, .p (.mov (.t 0)), some ⟨42, true⟩⟩,
  ⟨some 44, .p (.mov (.t 0)), some ⟨42, true⟩⟩,
  ⟨some 45, .p (.lenS (.t 44)), some ⟨42, true⟩⟩,
  ⟨some 46, .p (.bin 3 .sub (.t 45) (ci_ 1)), some ⟨42, true⟩⟩,
  ⟨some 47, .p (.idxS (.t 43) (.t 46)), some ⟨42, true⟩⟩,
  ⟨some 48, .p (.bin 5 .neq (.t 47) (.c (.int .u8 ((32 : Nat) : Int)))), some ⟨42, true⟩⟩,
  ⟨some 49, .p (.pick (.t 42) (.t 48) (.c (.bool false))), some ⟨38, false⟩⟩,
  po_ 50 (.pick (.t 38) (.c (.bool true)) (.t 49)),
  mv_ 2 50] [2])
 (.ret)
def AVc : AFb := .seq (.seq (.ops [po_ 3 (.mov (ci_ 0))] [0, 3])
 AUy)
 AUj
def AU3 : AFb := .seq (.seq (.ops [mv_ 4 0,
  po_ 5 (.lenS (.t 4)),
  po_ 6 (.bin 3 .gtr (.t 5) (ci_ 60))] [0, 6])
 (.cond (.t 6)
 (.seq (.ops [po_ 2 (.mov (.c (.bool false)))] [2])
  (.ret))
 (.skip)))
 AVc
def A08 : AFb := .seq (.ops [po_ 2 (.mov (.c (.bool false)))] [0])
 AU3
def A0U : List VR := [.tmp 2]
theorem A6O : Tryz.f68.body.bind (trC Tryz.prog Tryz.f68.ntmps) = some (er A08) := by kernel_rfl
theorem A6E : trR Tryz.prog Tryz.f68.results.toList = some A0U := by kernel_rfl
def AIz := AE7 AU4.eq_1
def AGf := AE7 AUH.eq_1
def AZ7 := AE7 AUy.eq_1
def AJk := AE7 AUj.eq_1
def AZL := AE7 AVc.eq_1
def ASk := AE7 AU3.eq_1
def AWy := AE7 A08.eq_1
theorem AGH {K : TV → Prop} {e : Env} {H : List Ob} : res A0U e H K = res [.tmp 2] e H K := AE9 rfl
def A4i := AGG 51 Tryz.func68 A6O A6E rfl

def AMI : AFb := .seq (.draw 10 [po_ 71 (.fieldA 0 0 (.t 1)),
  po_ 72 (.load false 1 (.t 71)),
  po_ 73 (.bin 9 .add (.t 72) (.c (.string (str [32, 60])))),
  po_ 74 (.fieldA 1 1 (.t 1)),
  po_ 75 (.load false 1 (.t 74)),
  po_ 76 (.bin 9 .add (.t 73) (.t 75)),
  po_ 77 (.bin 9 .add (.t 76) (.c (.string (str [62, 32])))),
  po_ 78 (.fieldA 2 2 (.t 1)),
  po_ 79 (.load false 1 (.t 78)),
  so_ 80 (.call 69 [.t 79]),
  po_ 81 (.bin 9 .add (.t 77) (.t 80)),
  po_ 82 (.bin 9 .add (.t 81) (.c (.string (str [32])))),
  mv_ 83 6,
  po_ 84 (.bin 9 .add (.t 82) (.t 83)),
  mv_ 85 10,
  po_ 86 (.bin 9 .add (.t 84) (.t 85)),
  mv_ 2 86,
  po_ 3 (.mov (.c (.bool true)))] [2, 3])
 (.ret)
def AM4 : AFb := .seq (.ops [mv_ 53 8,
  po_ 54 (.bin 3 .quo (.t 53) (ci_ 10)),
  po_ 55 (.bin 3 .add (ci_ 48) (.t 54)),
  po_ 56 (.conv .u8 (.t 55)),
  mv_ 57 8,
  po_ 58 (.bin 3 .rem (.t 57) (ci_ 10)),
  po_ 59 (.bin 3 .add (ci_ 48) (.t 58)),
  po_ 60 (.conv .u8 (.t 59)),
  mv_ 61 9,
  po_ 62 (.bin 3 .quo (.t 61) (ci_ 10)),
  po_ 63 (.bin 3 .add (ci_ 48) (.t 62)),
  po_ 64 (.conv .u8 (.t 63)),
  mv_ 65 9,
  po_ 66 (.bin 3 .rem (.t 65) (ci_ 10)),
  po_ 67 (.bin 3 .add (ci_ 48) (.t 66)),
  po_ 68 (.conv .u8 (.t 67)),
  ⟨some 69, .s (.bslice 1 4 (.val (.int .u8 ((0 : Nat) : Int))) [⟨0, .t 56⟩, ⟨1, .t 60⟩, ⟨2, .t 64⟩, ⟨3, .t 68⟩]), none⟩,
  po_ 70 (.b2s (.t 69)),
  mv_ 10 70] [1, 6, 10])
 AMI
def AMD : AFb := .seq (.ops [mv_ 51 7,
  po_ 52 (.bin 3 .rem (.t 51) (ci_ 60)),
  mv_ 9 52] [1, 6, 8, 9])
 AM4
def AMN : AFb := .seq (.ops [mv_ 49 7,
  po_ 50 (.bin 3 .quo (.t 49) (ci_ 60)),
  mv_ 8 50] [1, 6, 7, 8])
 AMD
def AMM : AFb := .seq (.seq (.ops [mv_ 45 7,
  po_ 46 (.bin 3 .lss (.t 45) (ci_ 0))] [1, 6, 7, 46])
 (.cond (.t 46)
 (.seq (.ops [po_ 6 (.mov (.c (.string (str [45]))))] [1, 6, 7])
  (.ops [mv_ 47 7,
   po_ 48 (.un .neg (.t 47)),
   mv_ 7 48] [1, 6, 7]))
 (.skip)))
 AMN
def ANc : AFb := .seq (.ops [po_ 43 (.fieldA 3 3 (.t 1)),
  po_ 44 (.load false 1 (.t 43)),
  mv_ 7 44] [1, 6, 7])
 AMM
def AMz : AFb := .seq (.ops [po_ 6 (.mov (.c (.string (str [43]))))] [1, 6])
 ANc
def ANb : AFb := .seq (.seq (.ops [mv_ 17 4,
  po_ 18 (.un .not (.t 17)),
  mv_ 19 18,
  ⟨some 20, .p (.mov (.t 5)), some ⟨19, false⟩⟩,
  ⟨some 21, .p (.un .not (.t 20)), some ⟨19, false⟩⟩,
  po_ 22 (.pick (.t 19) (.c (.bool true)) (.t 21)),
  mv_ 23 22,
  ⟨some 24, .p (.fieldA 2 2 (.t 1)), some ⟨23, false⟩⟩,
  ⟨some 25, .p (.load false 1 (.t 24)), some ⟨23, false⟩⟩,
  ⟨some 26, .p (.bin 3 .lss (.t 25) (ci_ 0)), some ⟨23, false⟩⟩,
  po_ 27 (.pick (.t 23) (.c (.bool true)) (.t 26)),
  mv_ 28 27,
  ⟨some 29, .p (.fieldA 2 2 (.t 1)), some ⟨28, false⟩⟩,
  ⟨some 30, .p (.load false 1 (.t 29)), some ⟨28, false⟩⟩,
  ⟨some 31, .p (.bin 3 .gtr (.t 30) (ci_ 1099511627776)), some ⟨28, false⟩⟩,
  po_ 32 (.pick (.t 28) (.c (.bool true)) (.t 31)),
  mv_ 33 32,
  ⟨some 34, .p (.fieldA 3 3 (.t 1)), some ⟨33, false⟩⟩,
  ⟨some 35, .p (.load false 1 (.t 34)), some ⟨33, false⟩⟩,
  ⟨some 36, .p (.bin 3 .lss (.t 35) (.c (.int .i64 (-840)))), some ⟨33, false⟩⟩,
  po_ 37 (.pick (.t 33) (.c (.bool true)) (.t 36)),
  mv_ 38 37,
  ⟨some 39, .p (.fieldA 3 3 (.t 1)), some ⟨38, false⟩⟩,
  ⟨some 40, .p (.load false 1 (.t 39)), some ⟨38, false⟩⟩,
  ⟨some 41, .p (.bin 3 .gtr (.t 40) (ci_ 840)), some ⟨38, false⟩⟩,
  po_ 42 (.pick (.t 38) (.c (.bool true)) (.t 41))] [1, 42])
 (.cond (.t 42)
 (.seq (.ops [po_ 2 (.mov (.c (.string (str [])))),
   po_ 3 (.mov (.c (.bool false)))] [2, 3])
  (.ret))
 (.skip)))
 AMz
def AMT : AFb := .seq (.ops [po_ 14 (.fieldA 1 1 (.t 1)),
  po_ 15 (.load false 1 (.t 14)),
  so_ 16 (.call 68 [.t 15]),
  mv_ 5 16] [1, 4, 5])
 ANb
def ALz : AFb := .seq (.ops [po_ 11 (.fieldA 0 0 (.t 1)),
  po_ 12 (.load false 1 (.t 11)),
  so_ 13 (.call 68 [.t 12]),
  mv_ 4 13] [1, 4])
 AMT
def APn : AFb := .seq (.ops [so_ 1 (.box (.t 0)),
  po_ 2 (.mov (.c (.string (str [])))),
  po_ 3 (.mov (.c (.bool false)))] [1])
 ALz
def AO7 : List VR := [.tmp 2, .tmp 3]
theorem AZh : Tryz.f33.body.bind (trC Tryz.prog Tryz.f33.ntmps) = some (er APn) := by kernel_rfl
theorem AZx : trR Tryz.prog Tryz.f33.results.toList = some AO7 := by kernel_rfl
def AKg := AE7 AMI.eq_1
def AKE := AE7 AM4.eq_1
def AKu := AE7 AMD.eq_1
def AK2 := AE7 AMN.eq_1
def AKz := AE7 AMM.eq_1
def AKk := AE7 ANc.eq_1
def AKj := AE7 AMz.eq_1
def AFK := AE7 ANb.eq_1
def AF2 := AE7 AMT.eq_1
def AFV := AE7 ALz.eq_1
def AGh := AE7 APn.eq_1
theorem AF8 {K : TV → Prop} {e : Env} {H : List Ob} : res AO7 e H K = res [.tmp 2, .tmp 3] e H K := AE9 rfl
def AYb := AGG 87 Tryz.func33 AZh AZx rfl

def ATB : AFb := .seq (.block 1 (.seq (.seq (.ops [mv_ 29 0,
  mv_ 30 4,
  po_ 31 (.idxS (.t 29) (.t 30)),
  po_ 32 (.bin 5 .lss (.t 31) (.c (.int .u8 ((48 : Nat) : Int)))),
  mv_ 33 32,
  ⟨some 34, .p (.mov (.t 0)), some ⟨33, false⟩⟩,
  ⟨some 35, .p (.mov (.t 4)), some ⟨33, false⟩⟩,
  ⟨some 36, .p (.idxS (.t 34) (.t 35)), some ⟨33, false⟩⟩,
  ⟨some 37, .p (.bin 5 .gtr (.t 36) (.c (.int .u8 ((57 : Nat) : Int)))), some ⟨33, false⟩⟩,
  po_ 38 (.pick (.t 33) (.c (.bool true)) (.t 37))] [0, 3, 4, 38])
 (.cond (.t 38)
 (.seq (.ops [po_ 2 (.mov (.c (.int .i64 (-1))))] [2])
  (.ret))
 (.skip)))
 (.ops [mv_ 39 3,
  po_ 40 (.bin 3 .mul (.t 39) (ci_ 10)),
  mv_ 41 0,
  mv_ 42 4,
  po_ 43 (.idxS (.t 41) (.t 42)),
  po_ 44 (.bin 5 .sub (.t 43) (.c (.int .u8 ((48 : Nat) : Int)))),
  po_ 45 (.conv .i64 (.t 44)),
  po_ 46 (.bin 3 .add (.t 40) (.t 45)),
  mv_ 3 46] [0, 3, 4])))
 (.ops [mv_ 27 4,
  po_ 28 (.bin 3 .add (.t 27) (ci_ 1)),
  mv_ 4 28] [0, 3, 4])
def ATD : AFb := .seq (.seq (.ops [mv_ 23 4,
  mv_ 24 0,
  po_ 25 (.lenS (.t 24)),
  po_ 26 (.bin 3 .lss (.t 23) (.t 25))] [0, 3, 4, 26])
 (.cond (.t 26)
 (.skip)
 (.exit 0)))
 ATB
def ATO : AFb := .block 0 (.loop [0, 3, 4] ATD)
def ATz : AFb := .seq (.ops [mv_ 47 3,
  mv_ 2 47] [2])
 (.ret)
def ATR : AFb := .seq (.seq (.ops [po_ 4 (.mov (ci_ 0))] [0, 3, 4])
 ATO)
 ATz
def ATw : AFb := .seq (.ops [po_ 3 (.mov (ci_ 0))] [0, 3])
 ATR
def ATy : AFb := .seq (.seq (.ops [mv_ 5 0,
  po_ 6 (.lenS (.t 5)),
  po_ 7 (.bin 3 .lss (.t 6) (ci_ 1)),
  mv_ 8 7,
  ⟨some 9, .p (.mov (.t 0)), some ⟨8, false⟩⟩,
  ⟨some 10, .p (.lenS (.t 9)), some ⟨8, false⟩⟩,
  ⟨some 11, .p (.bin 3 .gtr (.t 10) (ci_ 15)), some ⟨8, false⟩⟩,
  po_ 12 (.pick (.t 8) (.c (.bool true)) (.t 11)),
  mv_ 13 12,
  ⟨some 14, .p (.mov (.t 0)), some ⟨13, false⟩⟩,
  ⟨some 15, .p (.lenS (.t 14)), some ⟨13, false⟩⟩,
  ⟨some 16, .p (.bin 3 .gtr (.t 15) (ci_ 1)), some ⟨13, false⟩⟩,
  ⟨some 17, .p (.mov (.t 16)), some ⟨13, false⟩⟩,
  ⟨some 18, .p (.mov (.t 0)), some ⟨17, true⟩⟩,
  ⟨some 19, .p (.idxS (.t 18) (ci_ 0)), some ⟨17, true⟩⟩,
  ⟨some 20, .p (.bin 5 .eql (.t 19) (.c (.int .u8 ((48 : Nat) : Int)))), some ⟨17, true⟩⟩,
  ⟨some 21, .p (.pick (.t 17) (.t 20) (.c (.bool false))), some ⟨13, false⟩⟩,
  po_ 22 (.pick (.t 13) (.c (.bool true)) (.t 21))] [0, 22])
 (.cond (.t 22)
 (.seq (.ops [po_ 2 (.mov (.c (.int .i64 (-1))))] [2])
  (.ret))
 (.skip)))
 ATw
def AY6 : AFb := .seq (.ops [po_ 2 (.mov (ci_ 0))] [0])
 ATy
def AYL : List VR := [.tmp 2]
theorem A4U : Tryz.f108.body.bind (trC Tryz.prog Tryz.f108.ntmps) = some (er AY6) := by kernel_rfl
theorem A43 : trR Tryz.prog Tryz.f108.results.toList = some AYL := by kernel_rfl
def AGJ := AE7 ATB.eq_1
def AGl := AE7 ATD.eq_1
def APM := AE7 ATO.eq_1
def APN := AE7 ATz.eq_1
def AO8 := AE7 ATR.eq_1
def APD := AE7 ATw.eq_1
def AHQ := AE7 ATy.eq_1
def AI5 := AE7 AY6.eq_1
theorem AGx {K : TV → Prop} {e : Env} {H : List Ob} : res AYL e H K = res [.tmp 2] e H K := AE9 rfl
def A3y := AGG 48 Tryz.func108 A4U A43 rfl

def ANE : AFb := .seq (.seq (.ops [mv_ 12 5,
  mv_ 13 0,
  po_ 14 (.lenS (.t 13)),
  po_ 15 (.bin 3 .lss (.t 12) (.t 14)),
  mv_ 16 15,
  ⟨some 17, .p (.mov (.t 0)), some ⟨16, true⟩⟩,
  ⟨some 18, .p (.mov (.t 5)), some ⟨16, true⟩⟩,
  ⟨some 19, .p (.idxS (.t 17) (.t 18)), some ⟨16, true⟩⟩,
  ⟨some 20, .p (.bin 5 .neq (.t 19) (.c (.int .u8 ((60 : Nat) : Int)))), some ⟨16, true⟩⟩,
  po_ 21 (.pick (.t 16) (.t 20) (.c (.bool false)))] [0, 2, 4, 5, 21])
 (.cond (.t 21)
 (.skip)
 (.exit 0)))
 (.block 1 (.ops [mv_ 22 5,
  po_ 23 (.bin 3 .add (.t 22) (ci_ 1)),
  mv_ 5 23] [0, 2, 4, 5]))
def ANK : AFb := .seq (.seq (.ops [mv_ 25 6,
  mv_ 26 0,
  po_ 27 (.lenS (.t 26)),
  po_ 28 (.bin 3 .lss (.t 25) (.t 27)),
  mv_ 29 28,
  ⟨some 30, .p (.mov (.t 0)), some ⟨29, true⟩⟩,
  ⟨some 31, .p (.mov (.t 6)), some ⟨29, true⟩⟩,
  ⟨some 32, .p (.idxS (.t 30) (.t 31)), some ⟨29, true⟩⟩,
  ⟨some 33, .p (.bin 5 .neq (.t 32) (.c (.int .u8 ((62 : Nat) : Int)))), some ⟨29, true⟩⟩,
  po_ 34 (.pick (.t 29) (.t 33) (.c (.bool false)))] [0, 2, 4, 5, 6, 34])
 (.cond (.t 34)
 (.skip)
 (.exit 2)))
 (.block 3 (.ops [mv_ 35 6,
  po_ 36 (.bin 3 .add (.t 35) (ci_ 1)),
  mv_ 6 36] [0, 2, 4, 5, 6]))
def ANR : AFb := .seq (.ops [po_ 110 (.load true 4 (.t 4)),
  so_ 111 (.call 33 [.t 110]),
  mv_ 109 111,
  po_ 112 (.ext 0 (.t 109)),
  po_ 113 (.ext 1 (.t 109)),
  mv_ 10 112,
  mv_ 11 113] [0, 2, 4, 10, 11])
 (.seq (.ops [po_ 114 (.load true 4 (.t 4)),
  mv_ 115 11,
  mv_ 116 115,
  ⟨some 117, .p (.mov (.t 10)), some ⟨116, true⟩⟩,
  ⟨some 118, .p (.mov (.t 0)), some ⟨116, true⟩⟩,
  ⟨some 119, .p (.bin 9 .eql (.t 117) (.t 118)), some ⟨116, true⟩⟩,
  po_ 120 (.pick (.t 116) (.t 119) (.c (.bool false))),
  ⟨none, .s (.store 4 (.t 2) (.t 114)), none⟩,
  mv_ 3 120] [2, 3])
 (.ret))
def AN5 : AFb := .seq (.seq (.ops [mv_ 100 0,
  mv_ 101 7,
  po_ 102 (.bin 3 .sub (.t 101) (ci_ 5)),
  po_ 103 (.idxS (.t 100) (.t 102)),
  po_ 104 (.bin 5 .eql (.t 103) (.c (.int .u8 ((45 : Nat) : Int))))] [0, 2, 4, 104])
 (.cond (.t 104)
 (.ops [po_ 105 (.fieldA 3 3 (.t 4)),
   po_ 106 (.load false 1 (.t 105)),
   po_ 107 (.un .neg (.t 106)),
   po_ 108 (.fieldA 3 3 (.t 4)),
   ⟨none, .s (.store 1 (.t 108) (.t 107)), none⟩] [0, 2, 4])
 (.skip)))
 ANR
def ANF : AFb := .seq (.ops [mv_ 93 8,
  po_ 94 (.bin 3 .sub (.t 93) (ci_ 100)),
  po_ 95 (.bin 3 .mul (.t 94) (ci_ 60)),
  mv_ 96 9,
  po_ 97 (.bin 3 .add (.t 95) (.t 96)),
  po_ 98 (.bin 3 .sub (.t 97) (ci_ 100)),
  po_ 99 (.fieldA 3 3 (.t 4)),
  ⟨none, .s (.store 1 (.t 99) (.t 98)), none⟩] [0, 2, 4, 7])
 AN5
def ANV : AFb := .seq (.seq (.ops [mv_ 86 8,
  po_ 87 (.bin 3 .lss (.t 86) (ci_ 0)),
  mv_ 88 87,
  ⟨some 89, .p (.mov (.t 9)), some ⟨88, false⟩⟩,
  ⟨some 90, .p (.bin 3 .lss (.t 89) (ci_ 0)), some ⟨88, false⟩⟩,
  po_ 91 (.pick (.t 88) (.c (.bool true)) (.t 90))] [0, 2, 4, 7, 8, 9, 91])
 (.cond (.t 91)
 (.seq (.ops [po_ 92 (.load true 4 (.t 4)),
   ⟨none, .s (.store 4 (.t 2) (.t 92)), none⟩,
   po_ 3 (.mov (.c (.bool false)))] [2, 3])
  (.ret))
 (.skip)))
 ANF
def AN6 : AFb := .seq (.ops [mv_ 80 0,
  mv_ 81 7,
  po_ 82 (.bin 3 .sub (.t 81) (ci_ 2)),
  po_ 83 (.slS (.t 80) (some (.t 82)) none),
  po_ 84 (.bin 9 .add (.c (.string (str [49]))) (.t 83)),
  so_ 85 (.call 108 [.t 84]),
  mv_ 9 85] [0, 2, 4, 7, 8, 9])
 ANV
def AN8 : AFb := .seq (.ops [mv_ 72 0,
  mv_ 73 7,
  po_ 74 (.bin 3 .sub (.t 73) (ci_ 4)),
  mv_ 75 7,
  po_ 76 (.bin 3 .sub (.t 75) (ci_ 2)),
  po_ 77 (.slS (.t 72) (some (.t 74)) (some (.t 76))),
  po_ 78 (.bin 9 .add (.c (.string (str [49]))) (.t 77)),
  so_ 79 (.call 108 [.t 78]),
  mv_ 8 79] [0, 2, 4, 7, 8])
 AN6
def ANx : AFb := .seq (.ops [mv_ 64 0,
  mv_ 65 6,
  po_ 66 (.bin 3 .add (.t 65) (ci_ 2)),
  mv_ 67 7,
  po_ 68 (.bin 3 .sub (.t 67) (ci_ 6)),
  po_ 69 (.slS (.t 64) (some (.t 66)) (some (.t 68))),
  so_ 70 (.call 108 [.t 69]),
  po_ 71 (.fieldA 2 2 (.t 4)),
  ⟨none, .s (.store 1 (.t 71) (.t 70)), none⟩] [0, 2, 4, 7])
 AN8
def AMO : AFb := .seq (.ops [mv_ 58 0,
  mv_ 59 5,
  po_ 60 (.bin 3 .add (.t 59) (ci_ 1)),
  mv_ 61 6,
  po_ 62 (.slS (.t 58) (some (.t 60)) (some (.t 61))),
  po_ 63 (.fieldA 1 1 (.t 4)),
  ⟨none, .s (.store 1 (.t 63) (.t 62)), none⟩] [0, 2, 4, 6, 7])
 ANx
def AMx : AFb := .seq (.ops [mv_ 53 0,
  mv_ 54 5,
  po_ 55 (.bin 3 .sub (.t 54) (ci_ 1)),
  po_ 56 (.slS (.t 53) none (some (.t 55))),
  po_ 57 (.fieldA 0 0 (.t 4)),
  ⟨none, .s (.store 1 (.t 57) (.t 56)), none⟩] [0, 2, 4, 5, 6, 7])
 AMO
def AMG : AFb := .seq (.seq (.ops [mv_ 39 5,
  po_ 40 (.bin 3 .lss (.t 39) (ci_ 1)),
  mv_ 41 40,
  ⟨some 42, .p (.mov (.t 6)), some ⟨41, false⟩⟩,
  ⟨some 43, .p (.mov (.t 7)), some ⟨41, false⟩⟩,
  ⟨some 44, .p (.bin 3 .geq (.t 42) (.t 43)), some ⟨41, false⟩⟩,
  po_ 45 (.pick (.t 41) (.c (.bool true)) (.t 44)),
  mv_ 46 45,
  ⟨some 47, .p (.mov (.t 7)), some ⟨46, false⟩⟩,
  ⟨some 48, .p (.mov (.t 6)), some ⟨46, false⟩⟩,
  ⟨some 49, .p (.bin 3 .add (.t 48) (ci_ 9)), some ⟨46, false⟩⟩,
  ⟨some 50, .p (.bin 3 .lss (.t 47) (.t 49)), some ⟨46, false⟩⟩,
  po_ 51 (.pick (.t 46) (.c (.bool true)) (.t 50))] [0, 2, 4, 5, 6, 7, 51])
 (.cond (.t 51)
 (.seq (.ops [po_ 52 (.load true 4 (.t 4)),
   ⟨none, .s (.store 4 (.t 2) (.t 52)), none⟩,
   po_ 3 (.mov (.c (.bool false)))] [2, 3])
  (.ret))
 (.skip)))
 AMx
def AI9 : AFb := .seq (.ops [mv_ 37 0,
  po_ 38 (.lenS (.t 37)),
  mv_ 7 38] [0, 2, 4, 5, 6, 7])
 AMG
def AMR : AFb := .seq (.block 2 (.loop [0, 2, 4, 5, 6] ANK))
 AI9
def AI7 : AFb := .seq (.ops [mv_ 24 5,
  mv_ 6 24] [0, 2, 4, 5, 6])
 AMR
def AM5 : AFb := .seq (.block 0 (.loop [0, 2, 4, 5] ANE))
 AI7
def AM3 : AFb := .seq (.ops [po_ 5 (.mov (ci_ 0))] [0, 2, 4, 5])
 AM5
def ANa : AFb := .seq (.ops [so_ 4 (.alloc (.agg [.val (.string (str [])), .val (.string (str [])), .val (.int .i64 ((0 : Nat) : Int)), .val (.int .i64 ((0 : Nat) : Int))]))] [0, 2, 4])
 AM3
def ARB : AFb := .seq (.ops [so_ 2 (.alloc (.agg [.val (.string (str [])), .val (.string (str [])), .val (.int .i64 ((0 : Nat) : Int)), .val (.int .i64 ((0 : Nat) : Int))])),
  po_ 3 (.mov (.c (.bool false)))] [0, 2])
 ANa
def AJj : List VR := [.cell 2 true 4, .tmp 3]
theorem A0D : Tryz.f78.body.bind (trC Tryz.prog Tryz.f78.ntmps) = some (er ARB) := by kernel_rfl
theorem A0e : trR Tryz.prog Tryz.f78.results.toList = some AJj := by kernel_rfl
def AIY := AE7 ANE.eq_1
def AIX := AE7 ANK.eq_1
def ALi := AE7 ANR.eq_1
def ALH := AE7 AN5.eq_1
def ATY := AE7 ANF.eq_1
def AIU := AE7 ANV.eq_1
def ATS := AE7 AN6.eq_1
def ATT := AE7 AN8.eq_1
def AT4 := AE7 ANx.eq_1
def ASJ := AE7 AMO.eq_1
def ATd := AE7 AMx.eq_1
def AGW := AE7 AMG.eq_1
def AGX := AE7 AI9.eq_1
def ASG := AE7 AMR.eq_1
def ATf := AE7 AI7.eq_1
def ATm := AE7 AM5.eq_1
def AS6 := AE7 AM3.eq_1
def ASR := AE7 ANa.eq_1
def AXq := AE7 ARB.eq_1
theorem AFF {K : TV → Prop} {e : Env} {H : List Ob} : res AJj e H K = res [.cell 2 true 4, .tmp 3] e H K := AE9 rfl
def AZe := AGG 121 Tryz.func78 A0D A0e rfl

def AQH : AFb := .seq (.seq (.ops [mv_ 7 3,
  mv_ 8 0,
  po_ 9 (.lenS (.t 8)),
  po_ 10 (.bin 3 .lss (.t 7) (.t 9))] [0, 3, 10])
 (.cond (.t 10)
 (.skip)
 (.exit 0)))
 (.seq (.block 1 (.seq (.ops [mv_ 13 0,
  mv_ 14 3,
  po_ 15 (.idxS (.t 13) (.t 14)),
  po_ 16 (.bin 5 .eql (.t 15) (.c (.int .u8 ((0 : Nat) : Int))))] [0, 3, 16])
 (.cond (.t 16)
 (.seq (.ops [po_ 2 (.mov (.c (.bool false)))] [2])
  (.ret))
 (.skip))))
 (.ops [mv_ 11 3,
  po_ 12 (.bin 3 .add (.t 11) (ci_ 1)),
  mv_ 3 12] [0, 3]))
def ARN : AFb := .seq (.ops [po_ 2 (.mov (.c (.bool true)))] [2])
 (.ret)
def ARQ : AFb := .seq (.seq (.ops [po_ 3 (.mov (ci_ 0))] [0, 3])
 (.block 0 (.loop [0, 3] AQH)))
 ARN
def ASy : AFb := .seq (.seq (.ops [mv_ 4 0,
  po_ 5 (.lenS (.t 4)),
  po_ 6 (.bin 3 .gtr (.t 5) (ci_ 2000))] [0, 6])
 (.cond (.t 6)
 (.seq (.ops [po_ 2 (.mov (.c (.bool false)))] [2])
  (.ret))
 (.skip)))
 ARQ
def AWI : AFb := .seq (.ops [po_ 2 (.mov (.c (.bool false)))] [0])
 ASy
def AWM : List VR := [.tmp 2]
theorem A26 : Tryz.f34.body.bind (trC Tryz.prog Tryz.f34.ntmps) = some (er AWI) := by kernel_rfl
theorem A23 : trR Tryz.prog Tryz.f34.results.toList = some AWM := by kernel_rfl
def AX7 := AE7 AQH.eq_1
def AXl := AE7 ARN.eq_1
def AXA := AE7 ARQ.eq_1
def AXf := AE7 ASy.eq_1
def A1k := AE7 AWI.eq_1
theorem A1r {K : TV → Prop} {e : Env} {H : List Ob} : res AWM e H K = res [.tmp 2] e H K := AE9 rfl
def AJM := (And.intro (And.intro (And.intro @AX7 @AXl) (And.intro @AXA @AXf)) (And.intro @A1k @A1r))
def A2j := AGG 17 Tryz.func34 A26 A23 rfl

def AWL : AFb := .seq (.seq (.ops [mv_ 26 8,
  mv_ 27 0,
  po_ 28 (.lenS (.t 27)),
  po_ 29 (.bin 3 .lss (.t 26) (.t 28)),
  mv_ 30 29,
  ⟨some 31, .p (.mov (.t 0)), some ⟨30, true⟩⟩,
  ⟨some 32, .p (.mov (.t 8)), some ⟨30, true⟩⟩,
  ⟨some 33, .p (.idxS (.t 31) (.t 32)), some ⟨30, true⟩⟩,
  ⟨some 34, .p (.bin 5 .neq (.t 33) (.c (.int .u8 ((10 : Nat) : Int)))), some ⟨30, true⟩⟩,
  po_ 35 (.pick (.t 30) (.t 34) (.c (.bool false)))] [0, 7, 8, 35])
 (.cond (.t 35)
 (.skip)
 (.exit 0)))
 (.block 1 (.ops [mv_ 36 8,
  po_ 37 (.bin 3 .add (.t 36) (ci_ 1)),
  mv_ 8 37] [0, 7, 8]))
def AWF : AFb := .seq (.seq (.ops [mv_ 38 8,
  mv_ 39 0,
  po_ 40 (.lenS (.t 39)),
  po_ 41 (.bin 3 .geq (.t 38) (.t 40))] [0, 7, 8, 41])
 (.cond (.t 41)
 (.seq (.ops [mv_ 42 0,
   po_ 4 (.mov (.c (.string (str [])))),
   mv_ 5 42,
   po_ 6 (.mov (.c (.bool false)))] [4, 5, 6])
  (.ret))
 (.skip)))
 (.seq (.draw 5 [mv_ 43 0,
  mv_ 44 7,
  mv_ 45 8,
  po_ 46 (.slS (.t 43) (some (.t 44)) (some (.t 45))),
  mv_ 47 0,
  mv_ 48 8,
  po_ 49 (.bin 3 .add (.t 48) (ci_ 1)),
  po_ 50 (.slS (.t 47) (some (.t 49)) none),
  mv_ 4 46,
  mv_ 5 50,
  po_ 6 (.mov (.c (.bool true)))] [4, 5, 6])
 (.ret))
def AWT : AFb := .seq (.block 0 (.loop [0, 7, 8] AWL))
 AWF
def AWP : AFb := .seq (.ops [mv_ 25 7,
  mv_ 8 25] [0, 7, 8])
 AWT
def AWU : AFb := .seq (.seq (.ops [mv_ 12 0,
  po_ 13 (.lenS (.t 12)),
  mv_ 14 7,
  po_ 15 (.bin 3 .lss (.t 13) (.t 14)),
  mv_ 16 15,
  ⟨some 17, .p (.mov (.t 0)), some ⟨16, false⟩⟩,
  ⟨some 18, .p (.mov (.t 7)), some ⟨16, false⟩⟩,
  ⟨some 19, .p (.slS (.t 17) none (some (.t 18))), some ⟨16, false⟩⟩,
  ⟨some 20, .p (.mov (.t 1)), some ⟨16, false⟩⟩,
  ⟨some 21, .p (.bin 9 .add (.t 20) (.c (.string (str [32])))), some ⟨16, false⟩⟩,
  ⟨some 22, .p (.bin 9 .neq (.t 19) (.t 21)), some ⟨16, false⟩⟩,
  po_ 23 (.pick (.t 16) (.c (.bool true)) (.t 22))] [0, 7, 23])
 (.cond (.t 23)
 (.seq (.ops [mv_ 24 0,
   po_ 4 (.mov (.c (.string (str [])))),
   mv_ 5 24,
   po_ 6 (.mov (.c (.bool false)))] [4, 5, 6])
  (.ret))
 (.skip)))
 AWP
def AWN : AFb := .seq (.ops [mv_ 9 1,
  po_ 10 (.lenS (.t 9)),
  po_ 11 (.bin 3 .add (.t 10) (ci_ 1)),
  mv_ 7 11] [0, 1, 7])
 AWU
def A2a : AFb := .seq (.ops [po_ 4 (.mov (.c (.string (str [])))),
  po_ 5 (.mov (.c (.string (str [])))),
  po_ 6 (.mov (.c (.bool false)))] [0, 1])
 AWN
def A2E : List VR := [.tmp 4, .tmp 5, .tmp 6]
theorem A7K : Tryz.f76.body.bind (trC Tryz.prog Tryz.f76.ntmps) = some (er A2a) := by kernel_rfl
theorem A61 : trR Tryz.prog Tryz.f76.results.toList = some A2E := by kernel_rfl
def ANo := AE7 AWL.eq_1
def ATH := AE7 AWF.eq_1
def A1x := AE7 AWT.eq_1
def A1j := AE7 AWP.eq_1
def ANm := AE7 AWU.eq_1
def ANn := AE7 AWN.eq_1
def AS3 := AE7 A2a.eq_1
theorem AOe {K : TV → Prop} {e : Env} {H : List Ob} : res A2E e H K = res [.tmp 4, .tmp 5, .tmp 6] e H K := AE9 rfl
def A6K := AGG 51 Tryz.func76 A7K A61 rfl

def AVi : AFb := .seq (.ops [mv_ 45 5,
  po_ 46 (.un .not (.t 45)),
  mv_ 47 46,
  ⟨some 48, .p (.mov (.t 4)), some ⟨47, true⟩⟩,
  ⟨some 49, .p (.bin 5 .neq (.t 48) (.c (.int .u8 ((46 : Nat) : Int)))), some ⟨47, true⟩⟩,
  po_ 50 (.pick (.t 47) (.t 49) (.c (.bool false))),
  mv_ 51 50,
  ⟨some 52, .p (.mov (.t 4)), some ⟨51, true⟩⟩,
  ⟨some 53, .p (.bin 5 .neq (.t 52) (.c (.int .u8 ((95 : Nat) : Int)))), some ⟨51, true⟩⟩,
  po_ 54 (.pick (.t 51) (.t 53) (.c (.bool false))),
  mv_ 55 54,
  ⟨some 56, .p (.mov (.t 4)), some ⟨55, true⟩⟩,
  ⟨some 57, .p (.bin 5 .neq (.t 56) (.c (.int .u8 ((45 : Nat) : Int)))), some ⟨55, true⟩⟩,
  po_ 58 (.pick (.t 55) (.t 57) (.c (.bool false))),
  mv_ 59 58,
  ⟨some 60, .p (.mov (.t 4)), some ⟨59, true⟩⟩,
  ⟨some 61, .p (.bin 5 .neq (.t 60) (.c (.int .u8 ((47 : Nat) : Int)))), some ⟨59, true⟩⟩,
  po_ 62 (.pick (.t 59) (.t 61) (.c (.bool false)))] [0, 3, 62])
 (.cond (.t 62)
 (.seq (.ops [po_ 2 (.mov (.c (.bool false)))] [2])
  (.ret))
 (.skip))
def AU7 : AFb := .seq (.ops [mv_ 23 4,
  po_ 24 (.bin 5 .geq (.t 23) (.c (.int .u8 ((97 : Nat) : Int)))),
  mv_ 25 24,
  ⟨some 26, .p (.mov (.t 4)), some ⟨25, true⟩⟩,
  ⟨some 27, .p (.bin 5 .leq (.t 26) (.c (.int .u8 ((122 : Nat) : Int)))), some ⟨25, true⟩⟩,
  po_ 28 (.pick (.t 25) (.t 27) (.c (.bool false))),
  mv_ 29 28,
  ⟨some 30, .p (.mov (.t 4)), some ⟨29, false⟩⟩,
  ⟨some 31, .p (.bin 5 .geq (.t 30) (.c (.int .u8 ((65 : Nat) : Int)))), some ⟨29, false⟩⟩,
  ⟨some 32, .p (.mov (.t 31)), some ⟨29, false⟩⟩,
  ⟨some 33, .p (.mov (.t 4)), some ⟨32, true⟩⟩,
  ⟨some 34, .p (.bin 5 .leq (.t 33) (.c (.int .u8 ((90 : Nat) : Int)))), some ⟨32, true⟩⟩,
  ⟨some 35, .p (.pick (.t 32) (.t 34) (.c (.bool false))), some ⟨29, false⟩⟩,
  po_ 36 (.pick (.t 29) (.c (.bool true)) (.t 35)),
  mv_ 37 36,
  ⟨some 38, .p (.mov (.t 4)), some ⟨37, false⟩⟩,
  ⟨some 39, .p (.bin 5 .geq (.t 38) (.c (.int .u8 ((48 : Nat) : Int)))), some ⟨37, false⟩⟩,
  ⟨some 40, .p (.mov (.t 39)), some ⟨37, false⟩⟩,
  ⟨some 41, .p (.mov (.t 4)), some ⟨40, true⟩⟩,
  ⟨some 42, .p (.bin 5 .leq (.t 41) (.c (.int .u8 ((57 : Nat) : Int)))), some ⟨40, true⟩⟩,
  ⟨some 43, .p (.pick (.t 40) (.t 42) (.c (.bool false))), some ⟨37, false⟩⟩,
  po_ 44 (.pick (.t 37) (.c (.bool true)) (.t 43)),
  mv_ 5 44] [0, 3, 4, 5])
 AVi
def AVw : AFb := .seq (.block 1 (.seq (.ops [mv_ 20 0,
  mv_ 21 3,
  po_ 22 (.idxS (.t 20) (.t 21)),
  mv_ 4 22] [0, 3, 4])
 AU7))
 (.ops [mv_ 18 3,
  po_ 19 (.bin 3 .add (.t 18) (ci_ 1)),
  mv_ 3 19] [0, 3])
def AUz : AFb := .seq (.seq (.ops [mv_ 14 3,
  mv_ 15 0,
  po_ 16 (.lenS (.t 15)),
  po_ 17 (.bin 3 .lss (.t 14) (.t 16))] [0, 3, 17])
 (.cond (.t 17)
 (.skip)
 (.exit 0)))
 AVw
def AVv : AFb := .block 0 (.loop [0, 3] AUz)
def AUh : AFb := .seq (.ops [po_ 2 (.mov (.c (.bool true)))] [2])
 (.ret)
def AUU : AFb := .seq (.seq (.ops [po_ 3 (.mov (ci_ 0))] [0, 3])
 AVv)
 AUh
def AUP : AFb := .seq (.seq (.ops [mv_ 6 0,
  po_ 7 (.lenS (.t 6)),
  po_ 8 (.bin 3 .lss (.t 7) (ci_ 1)),
  mv_ 9 8,
  ⟨some 10, .p (.mov (.t 0)), some ⟨9, false⟩⟩,
  ⟨some 11, .p (.lenS (.t 10)), some ⟨9, false⟩⟩,
  ⟨some 12, .p (.bin 3 .gtr (.t 11) (ci_ 60)), some ⟨9, false⟩⟩,
  po_ 13 (.pick (.t 9) (.c (.bool true)) (.t 12))] [0, 13])
 (.cond (.t 13)
 (.seq (.ops [po_ 2 (.mov (.c (.bool false)))] [2])
  (.ret))
 (.skip)))
 AUU
def A0W : AFb := .seq (.ops [po_ 2 (.mov (.c (.bool false)))] [0])
 AUP
def A05 : List VR := [.tmp 2]
theorem A6h : Tryz.f32.body.bind (trC Tryz.prog Tryz.f32.ntmps) = some (er A0W) := by kernel_rfl
theorem A5F : trR Tryz.prog Tryz.f32.results.toList = some A05 := by kernel_rfl
def AFY := AE7 AVi.eq_1
def AFW := AE7 AU7.eq_1
def AFX := AE7 AVw.eq_1
def AFJ := AE7 AUz.eq_1
def AZY := AE7 AVv.eq_1
def A0u := AE7 AUh.eq_1
def AZP := AE7 AUU.eq_1
def AMe := AE7 AUP.eq_1
def APT := AE7 A0W.eq_1
theorem AHT {K : TV → Prop} {e : Env} {H : List Ob} : res A05 e H K = res [.tmp 2] e H K := AE9 rfl
def A40 := AGG 63 Tryz.func32 A6h A5F rfl

def APp : AFb := .seq (.draw 19 [po_ 37 (.fieldA 0 0 (.t 1)),
  po_ 38 (.load true 20 (.t 37)),
  so_ 39 (.call 36 [.t 38]),
  po_ 40 (.bin 9 .add (.c (.string (str [111, 98, 106, 101, 99, 116, 32]))) (.t 39)),
  po_ 41 (.bin 9 .add (.t 40) (.c (.string (str [10, 116, 121, 112, 101, 32])))),
  po_ 42 (.fieldA 1 20 (.t 1)),
  po_ 43 (.load false 1 (.t 42)),
  so_ 44 (.call 35 [.t 43]),
  po_ 45 (.bin 9 .add (.t 41) (.t 44)),
  po_ 46 (.bin 9 .add (.t 45) (.c (.string (str [10, 116, 97, 103, 32])))),
  po_ 47 (.fieldA 2 21 (.t 1)),
  po_ 48 (.load false 1 (.t 47)),
  po_ 49 (.bin 9 .add (.t 46) (.t 48)),
  po_ 50 (.bin 9 .add (.t 49) (.c (.string (str [10, 116, 97, 103, 103, 101, 114, 32])))),
  mv_ 51 5,
  po_ 52 (.bin 9 .add (.t 50) (.t 51)),
  po_ 53 (.bin 9 .add (.t 52) (.c (.string (str [10, 10])))),
  po_ 54 (.fieldA 4 26 (.t 1)),
  po_ 55 (.load false 1 (.t 54)),
  po_ 56 (.bin 9 .add (.t 53) (.t 55)),
  mv_ 8 56] [8])
 (.seq (.ops [mv_ 57 8,
  so_ 58 (.s2b (.t 57)),
  mv_ 2 58,
  po_ 3 (.mov (ci_ 0))] [2, 3])
 (.ret))
def APO : AFb := .seq (.seq (.ops [po_ 21 (.fieldA 1 20 (.t 1)),
  po_ 22 (.load false 1 (.t 21)),
  so_ 23 (.call 35 [.t 22]),
  po_ 24 (.bin 9 .eql (.t 23) (.c (.string (str [])))),
  mv_ 25 24,
  ⟨some 26, .p (.mov (.t 4)), some ⟨25, false⟩⟩,
  ⟨some 27, .p (.un .not (.t 26)), some ⟨25, false⟩⟩,
  po_ 28 (.pick (.t 25) (.c (.bool true)) (.t 27)),
  mv_ 29 28,
  ⟨some 30, .p (.mov (.t 6)), some ⟨29, false⟩⟩,
  ⟨some 31, .p (.un .not (.t 30)), some ⟨29, false⟩⟩,
  po_ 32 (.pick (.t 29) (.c (.bool true)) (.t 31)),
  mv_ 33 32,
  ⟨some 34, .p (.mov (.t 7)), some ⟨33, false⟩⟩,
  ⟨some 35, .p (.un .not (.t 34)), some ⟨33, false⟩⟩,
  po_ 36 (.pick (.t 33) (.c (.bool true)) (.t 35))] [1, 5, 36])
 (.cond (.t 36)
 (.seq (.ops [po_ 2 (.mov (.c (.slice none 0 0))),
   po_ 3 (.mov (ci_ 23))] [2, 3])
  (.ret))
 (.skip)))
 APp
def APw : AFb := .seq (.ops [po_ 18 (.fieldA 4 26 (.t 1)),
  po_ 19 (.load false 1 (.t 18)),
  so_ 20 (.call 34 [.t 19]),
  mv_ 7 20] [1, 4, 5, 6, 7])
 APO
def APc : AFb := .seq (.ops [po_ 13 (.fieldA 3 22 (.t 1)),
  po_ 14 (.load true 4 (.t 13)),
  so_ 15 (.call 33 [.t 14]),
  mv_ 12 15,
  po_ 16 (.ext 0 (.t 12)),
  po_ 17 (.ext 1 (.t 12)),
  mv_ 5 16,
  mv_ 6 17] [1, 4, 5, 6])
 APw
def APo : AFb := .seq (.ops [po_ 9 (.fieldA 2 21 (.t 1)),
  po_ 10 (.load false 1 (.t 9)),
  so_ 11 (.call 32 [.t 10]),
  mv_ 4 11] [1, 4])
 APc
def AVy : AFb := .seq (.ops [so_ 1 (.box (.t 0)),
  po_ 2 (.mov (.c (.slice none 0 0))),
  po_ 3 (.mov (ci_ 0))] [1])
 APo
def AVx : List VR := [.tmp 2, .tmp 3]
theorem A2d : Tryz.f10.body.bind (trC Tryz.prog Tryz.f10.ntmps) = some (er AVy) := by kernel_rfl
theorem A2g : trR Tryz.prog Tryz.f10.results.toList = some AVx := by kernel_rfl
def AVL := AE7 APp.eq_1
def AWn := AE7 APO.eq_1
def AVR := AE7 APw.eq_1
def AWq := AE7 APc.eq_1
def AWr := AE7 APo.eq_1
def A0z := AE7 AVy.eq_1
theorem AIA {K : TV → Prop} {e : Env} {H : List Ob} : res AVx e H K = res [.tmp 2, .tmp 3] e H K := AE9 rfl
def A1s := AGG 59 Tryz.func10 A2d A2g rfl

def ARD : AFb := .seq (.seq (.ops [mv_ 81 16,
  po_ 82 (.bin 3 .leq (.t 81) (ci_ 4))] [0, 2, 4, 5, 8, 10, 12, 16, 82])
 (.cond (.t 82)
 (.skip)
 (.exit 0)))
 (.seq (.block 1 (.seq (.ops [mv_ 85 16,
  so_ 86 (.call 35 [.t 85]),
  mv_ 87 8,
  po_ 88 (.bin 9 .eql (.t 86) (.t 87))] [0, 2, 4, 5, 8, 10, 12, 16, 88])
 (.cond (.t 88)
 (.ops [mv_ 89 16,
   po_ 90 (.fieldA 1 20 (.t 4)),
   ⟨none, .s (.store 1 (.t 90) (.t 89)), none⟩] [0, 2, 4, 5, 8, 10, 12, 16])
 (.skip))))
 (.ops [mv_ 83 16,
  po_ 84 (.bin 3 .add (.t 83) (ci_ 1)),
  mv_ 16 84] [0, 2, 4, 5, 8, 10, 12, 16]))
def AR0 : AFb := .seq (.sdraw 13 [po_ 107 (.load true 27 (.t 4)),
  mv_ 108 15,
  mv_ 109 108,
  ⟨some 110, .p (.mov (.t 18)), some ⟨109, true⟩⟩,
  ⟨some 111, .p (.bin 3 .eql (.t 110) (ci_ 0)), some ⟨109, true⟩⟩,
  po_ 112 (.pick (.t 109) (.t 111) (.c (.bool false))),
  mv_ 113 112,
  ⟨some 114, .p (.mov (.t 17)), some ⟨113, true⟩⟩,
  ⟨some 115, .p (.b2s (.t 114)), some ⟨113, true⟩⟩,
  ⟨some 116, .p (.mov (.t 0)), some ⟨113, true⟩⟩,
  ⟨some 117, .p (.b2s (.t 116)), some ⟨113, true⟩⟩,
  ⟨some 118, .p (.bin 9 .eql (.t 115) (.t 117)), some ⟨113, true⟩⟩,
  po_ 119 (.pick (.t 113) (.t 118) (.c (.bool false))),
  ⟨none, .s (.store 27 (.t 2) (.t 107)), none⟩,
  mv_ 3 119] [2, 3])
 (.ret)
def ARy : AFb := .seq (.ops [po_ 103 (.load true 27 (.t 4)),
  so_ 104 (.call 10 [.t 103]),
  mv_ 102 104,
  po_ 105 (.ext 0 (.t 102)),
  po_ 106 (.ext 1 (.t 102)),
  mv_ 17 105,
  mv_ 18 106] [0, 2, 4, 15, 17, 18])
 AR0
def ASc : AFb := .seq (.ops [mv_ 99 5,
  po_ 100 (.slS (.t 99) (some (ci_ 1)) none),
  po_ 101 (.fieldA 4 26 (.t 4)),
  ⟨none, .s (.store 1 (.t 101) (.t 100)), none⟩] [0, 2, 4, 15])
 ARy
def ARb : AFb := .seq (.ops [mv_ 94 12,
  so_ 95 (.call 78 [.t 94]),
  mv_ 93 95,
  po_ 96 (.ext 0 (.t 93)),
  po_ 97 (.ext 1 (.t 93)),
  po_ 98 (.fieldA 3 22 (.t 4)),
  ⟨none, .s (.store 4 (.t 98) (.t 96)), none⟩,
  mv_ 15 97] [0, 2, 4, 5, 15])
 ASc
def ARC : AFb := .seq (.ops [mv_ 91 10,
  po_ 92 (.fieldA 2 21 (.t 4)),
  ⟨none, .s (.store 1 (.t 92) (.t 91)), none⟩] [0, 2, 4, 5, 12])
 ARb
def ASF : AFb := .seq (.seq (.ops [po_ 16 (.mov (ci_ 1))] [0, 2, 4, 5, 8, 10, 12, 16])
 (.block 0 (.loop [0, 2, 4, 5, 8, 10, 12, 16] ARD)))
 ARC
def AR6 : AFb := .seq (.ops [po_ 79 (.load true 20 (.t 14)),
  po_ 80 (.fieldA 0 0 (.t 4)),
  ⟨none, .s (.store 20 (.t 80) (.t 79)), none⟩] [0, 2, 4, 5, 8, 10, 12])
 ASF
def AQ6 : AFb := .seq (.seq (.ops [mv_ 50 7,
  po_ 51 (.un .not (.t 50)),
  mv_ 52 51,
  ⟨some 53, .p (.mov (.t 9)), some ⟨52, false⟩⟩,
  ⟨some 54, .p (.un .not (.t 53)), some ⟨52, false⟩⟩,
  po_ 55 (.pick (.t 52) (.c (.bool true)) (.t 54)),
  mv_ 56 55,
  ⟨some 57, .p (.mov (.t 11)), some ⟨56, false⟩⟩,
  ⟨some 58, .p (.un .not (.t 57)), some ⟨56, false⟩⟩,
  po_ 59 (.pick (.t 56) (.c (.bool true)) (.t 58)),
  mv_ 60 59,
  ⟨some 61, .p (.mov (.t 13)), some ⟨60, false⟩⟩,
  ⟨some 62, .p (.un .not (.t 61)), some ⟨60, false⟩⟩,
  po_ 63 (.pick (.t 60) (.c (.bool true)) (.t 62)),
  mv_ 64 63,
  ⟨some 65, .p (.mov (.t 15)), some ⟨64, false⟩⟩,
  ⟨some 66, .p (.un .not (.t 65)), some ⟨64, false⟩⟩,
  po_ 67 (.pick (.t 64) (.c (.bool true)) (.t 66)),
  mv_ 68 67,
  ⟨some 69, .p (.mov (.t 5)), some ⟨68, false⟩⟩,
  ⟨some 70, .p (.lenS (.t 69)), some ⟨68, false⟩⟩,
  ⟨some 71, .p (.bin 3 .lss (.t 70) (ci_ 1)), some ⟨68, false⟩⟩,
  po_ 72 (.pick (.t 68) (.c (.bool true)) (.t 71)),
  mv_ 73 72,
  ⟨some 74, .p (.mov (.t 5)), some ⟨73, false⟩⟩,
  ⟨some 75, .p (.idxS (.t 74) (ci_ 0)), some ⟨73, false⟩⟩,
  ⟨some 76, .p (.bin 5 .neq (.t 75) (.c (.int .u8 ((10 : Nat) : Int)))), some ⟨73, false⟩⟩,
  po_ 77 (.pick (.t 73) (.c (.bool true)) (.t 76))] [0, 2, 4, 5, 8, 10, 12, 14, 77])
 (.cond (.t 77)
 (.seq (.ops [po_ 78 (.load true 27 (.t 4)),
   ⟨none, .s (.store 27 (.t 2) (.t 78)), none⟩,
   po_ 3 (.mov (.c (.bool false)))] [2, 3])
  (.ret))
 (.skip)))
 AR6
def APi : AFb := .seq (.ops [mv_ 46 6,
  so_ 47 (.call 77 [.t 46]),
  mv_ 45 47,
  po_ 48 (.ext 0 (.t 45)),
  po_ 49 (.ext 1 (.t 45)),
  so_ 14 (.alloc (.arr 20 1 [.val (.int .u8 ((0 : Nat) : Int)), .val (.int .u8 ((0 : Nat) : Int)), .val (.int .u8 ((0 : Nat) : Int)), .val (.int .u8 ((0 : Nat) : Int)), .val (.int .u8 ((0 : Nat) : Int)), .val (.int .u8 ((0 : Nat) : Int)), .val (.int .u8 ((0 : Nat) : Int)), .val (.int .u8 ((0 : Nat) : Int)), .val (.int .u8 ((0 : Nat) : Int)), .val (.int .u8 ((0 : Nat) : Int)), .val (.int .u8 ((0 : Nat) : Int)), .val (.int .u8 ((0 : Nat) : Int)), .val (.int .u8 ((0 : Nat) : Int)), .val (.int .u8 ((0 : Nat) : Int)), .val (.int .u8 ((0 : Nat) : Int)), .val (.int .u8 ((0 : Nat) : Int)), .val (.int .u8 ((0 : Nat) : Int)), .val (.int .u8 ((0 : Nat) : Int)), .val (.int .u8 ((0 : Nat) : Int)), .val (.int .u8 ((0 : Nat) : Int))])),
  ⟨none, .s (.store 20 (.t 14) (.t 48)), none⟩,
  mv_ 15 49] [0, 2, 4, 5, 7, 8, 9, 10, 11, 12, 13, 14, 15])
 AQ6
def APB : AFb := .seq (.ops [mv_ 40 5,
  so_ 41 (.call 76 [.t 40, .c (.string (str [116, 97, 103, 103, 101, 114]))]),
  mv_ 39 41,
  po_ 42 (.ext 0 (.t 39)),
  po_ 43 (.ext 1 (.t 39)),
  po_ 44 (.ext 2 (.t 39)),
  mv_ 12 42,
  mv_ 5 43,
  mv_ 13 44] [0, 2, 4, 5, 6, 7, 8, 9, 10, 11, 12, 13])
 APi
def AO5 : AFb := .seq (.ops [mv_ 34 5,
  so_ 35 (.call 76 [.t 34, .c (.string (str [116, 97, 103]))]),
  mv_ 33 35,
  po_ 36 (.ext 0 (.t 33)),
  po_ 37 (.ext 1 (.t 33)),
  po_ 38 (.ext 2 (.t 33)),
  mv_ 10 36,
  mv_ 5 37,
  mv_ 11 38] [0, 2, 4, 5, 6, 7, 8, 9, 10, 11])
 APB
def APq : AFb := .seq (.ops [mv_ 28 5,
  so_ 29 (.call 76 [.t 28, .c (.string (str [116, 121, 112, 101]))]),
  mv_ 27 29,
  po_ 30 (.ext 0 (.t 27)),
  po_ 31 (.ext 1 (.t 27)),
  po_ 32 (.ext 2 (.t 27)),
  mv_ 8 30,
  mv_ 5 31,
  mv_ 9 32] [0, 2, 4, 5, 6, 7, 8, 9])
 AO5
def APz : AFb := .seq (.ops [mv_ 22 5,
  so_ 23 (.call 76 [.t 22, .c (.string (str [111, 98, 106, 101, 99, 116]))]),
  mv_ 21 23,
  po_ 24 (.ext 0 (.t 21)),
  po_ 25 (.ext 1 (.t 21)),
  po_ 26 (.ext 2 (.t 21)),
  mv_ 6 24,
  mv_ 5 25,
  mv_ 7 26] [0, 2, 4, 5, 6, 7])
 APq
def APu : AFb := .seq (.ops [mv_ 19 0,
  po_ 20 (.b2s (.t 19)),
  mv_ 5 20] [0, 2, 4, 5])
 APz
def APb : AFb := .seq (.ops [so_ 4 (.alloc (.agg [.arr 20 1 [.val (.int .u8 ((0 : Nat) : Int)), .val (.int .u8 ((0 : Nat) : Int)), .val (.int .u8 ((0 : Nat) : Int)), .val (.int .u8 ((0 : Nat) : Int)), .val (.int .u8 ((0 : Nat) : Int)), .val (.int .u8 ((0 : Nat) : Int)), .val (.int .u8 ((0 : Nat) : Int)), .val (.int .u8 ((0 : Nat) : Int)), .val (.int .u8 ((0 : Nat) : Int)), .val (.int .u8 ((0 : Nat) : Int)), .val (.int .u8 ((0 : Nat) : Int)), .val (.int .u8 ((0 : Nat) : Int)), .val (.int .u8 ((0 : Nat) : Int)), .val (.int .u8 ((0 : Nat) : Int)), .val (.int .u8 ((0 : Nat) : Int)), .val (.int .u8 ((0 : Nat) : Int)), .val (.int .u8 ((0 : Nat) : Int)), .val (.int .u8 ((0 : Nat) : Int)), .val (.int .u8 ((0 : Nat) : Int)), .val (.int .u8 ((0 : Nat) : Int))], .val (.int .i64 ((0 : Nat) : Int)), .val (.string (str [])), .agg [.val (.string (str [])), .val (.string (str [])), .val (.int .i64 ((0 : Nat) : Int)), .val (.int .i64 ((0 : Nat) : Int))], .val (.string (str []))]))] [0, 2, 4])
 APu
def AWQ : AFb := .seq (.ops [so_ 2 (.alloc (.agg [.arr 20 1 [.val (.int .u8 ((0 : Nat) : Int)), .val (.int .u8 ((0 : Nat) : Int)), .val (.int .u8 ((0 : Nat) : Int)), .val (.int .u8 ((0 : Nat) : Int)), .val (.int .u8 ((0 : Nat) : Int)), .val (.int .u8 ((0 : Nat) : Int)), .val (.int .u8 ((0 : Nat) : Int)), .val (.int .u8 ((0 : Nat) : Int)), .val (.int .u8 ((0 : Nat) : Int)), .val (.int .u8 ((0 : Nat) : Int)), .val (.int .u8 ((0 : Nat) : Int)), .val (.int .u8 ((0 : Nat) : Int)), .val (.int .u8 ((0 : Nat) : Int)), .val (.int .u8 ((0 : Nat) : Int)), .val (.int .u8 ((0 : Nat) : Int)), .val (.int .u8 ((0 : Nat) : Int)), .val (.int .u8 ((0 : Nat) : Int)), .val (.int .u8 ((0 : Nat) : Int)), .val (.int .u8 ((0 : Nat) : Int)), .val (.int .u8 ((0 : Nat) : Int))], .val (.int .i64 ((0 : Nat) : Int)), .val (.string (str [])), .agg [.val (.string (str [])), .val (.string (str [])), .val (.int .i64 ((0 : Nat) : Int)), .val (.int .i64 ((0 : Nat) : Int))], .val (.string (str []))])),
  po_ 3 (.mov (.c (.bool false)))] [0, 2])
 APb
def AWz : List VR := [.cell 2 true 27, .tmp 3]
theorem A25 : Tryz.f40.body.bind (trC Tryz.prog Tryz.f40.ntmps) = some (er AWQ) := by kernel_rfl
theorem A22 : trR Tryz.prog Tryz.f40.results.toList = some AWz := by kernel_rfl
def AOS := AE7 ARD.eq_1
def AG4 := AE7 AR0.eq_1
def AXw := AE7 ARy.eq_1
def AYy := AE7 ASc.eq_1
def AXJ := AE7 ARb.eq_1
def AXF := AE7 ARC.eq_1
def AYa := AE7 ASF.eq_1
def AXh := AE7 AR6.eq_1
def AXi := AE7 AQ6.eq_1
def AWf := AE7 APi.eq_1
def AWo := AE7 APB.eq_1
def AVY := AE7 AO5.eq_1
def AV1 := AE7 APq.eq_1
def AWg := AE7 APz.eq_1
def AV2 := AE7 APu.eq_1
def AVN := AE7 APb.eq_1
def A1S := AE7 AWQ.eq_1
theorem AGz {K : TV → Prop} {e : Env} {H : List Ob} : res AWz e H K = res [.cell 2 true 27, .tmp 3] e H K := AE9 rfl
def A2B := AGG 120 Tryz.func40 A25 A22 rfl

def AY0 : AFb := .seq (.ops [so_ 1 (.box (.t 0)),
  so_ 2 (.alloc (.agg [.val (.string (str [])), .val (.string (str [])), .val (.int .i64 ((0 : Nat) : Int)), .val (.int .i64 ((0 : Nat) : Int))]))] [1, 2])
 (.seq (.ops [po_ 3 (.fieldA 0 0 (.t 1)),
  po_ 4 (.load false 1 (.t 3)),
  po_ 5 (.fieldA 1 1 (.t 1)),
  po_ 6 (.load false 1 (.t 5)),
  po_ 7 (.fieldA 2 2 (.t 1)),
  po_ 8 (.load false 1 (.t 7)),
  po_ 9 (.fieldA 3 3 (.t 1)),
  po_ 10 (.load false 1 (.t 9)),
  ⟨some 11, .p (.build [.val (.string (str [])), .val (.string (str [])), .val (.int .i64 ((0 : Nat) : Int)), .val (.int .i64 ((0 : Nat) : Int))] [1, 1, 1, 1] [⟨0, .t 4⟩, ⟨1, .t 6⟩, ⟨2, .t 8⟩, ⟨3, .t 10⟩]), none⟩,
  ⟨none, .s (.store 4 (.t 2) (.t 11)), none⟩] [2])
 (.ret))
def AYJ : List VR := [.cell 2 true 4]
theorem A47 : Tryz.f9.body.bind (trC Tryz.prog Tryz.f9.ntmps) = some (er AY0) := by kernel_rfl
theorem A5q : trR Tryz.prog Tryz.f9.results.toList = some AYJ := by kernel_rfl
def A2y := AE7 AY0.eq_1
theorem A18 {K : TV → Prop} {e : Env} {H : List Ob} : res AYJ e H K = res [.cell 2 true 4] e H K := AE9 rfl
def A4V := (And.intro @A2y @A18)
def A3h := AGG 12 Tryz.func9 A47 A5q rfl

def ANH : AFb := .seq (.ops [po_ 5 (.fieldA 0 0 (.t 2)),
  po_ 6 (.load false 1 (.t 5)),
  po_ 7 (.fieldA 0 0 (.t 3)),
  po_ 8 (.load false 1 (.t 7)),
  po_ 9 (.bin 9 .eql (.t 6) (.t 8)),
  mv_ 10 9,
  ⟨some 11, .p (.fieldA 1 1 (.t 2)), some ⟨10, true⟩⟩,
  ⟨some 12, .p (.load false 1 (.t 11)), some ⟨10, true⟩⟩,
  ⟨some 13, .p (.fieldA 1 1 (.t 3)), some ⟨10, true⟩⟩,
  ⟨some 14, .p (.load false 1 (.t 13)), some ⟨10, true⟩⟩,
  ⟨some 15, .p (.bin 9 .eql (.t 12) (.t 14)), some ⟨10, true⟩⟩,
  po_ 16 (.pick (.t 10) (.t 15) (.c (.bool false))),
  mv_ 17 16,
  ⟨some 18, .p (.fieldA 2 2 (.t 2)), some ⟨17, true⟩⟩,
  ⟨some 19, .p (.load false 1 (.t 18)), some ⟨17, true⟩⟩,
  ⟨some 20, .p (.fieldA 2 2 (.t 3)), some ⟨17, true⟩⟩,
  ⟨some 21, .p (.load false 1 (.t 20)), some ⟨17, true⟩⟩,
  ⟨some 22, .p (.bin 3 .eql (.t 19) (.t 21)), some ⟨17, true⟩⟩,
  po_ 23 (.pick (.t 17) (.t 22) (.c (.bool false))),
  mv_ 24 23,
  ⟨some 25, .p (.fieldA 3 3 (.t 2)), some ⟨24, true⟩⟩,
  ⟨some 26, .p (.load false 1 (.t 25)), some ⟨24, true⟩⟩,
  ⟨some 27, .p (.fieldA 3 3 (.t 3)), some ⟨24, true⟩⟩,
  ⟨some 28, .p (.load false 1 (.t 27)), some ⟨24, true⟩⟩,
  ⟨some 29, .p (.bin 3 .eql (.t 26) (.t 28)), some ⟨24, true⟩⟩,
  po_ 30 (.pick (.t 24) (.t 29) (.c (.bool false))),
  mv_ 4 30] [4])
 (.ret)
def ASm : AFb := .seq (.ops [so_ 2 (.box (.t 0)),
  so_ 3 (.box (.t 1)),
  po_ 4 (.mov (.c (.bool false)))] [2, 3])
 ANH
def ARd : List VR := [.tmp 4]
theorem A0A : Tryz.f41.body.bind (trC Tryz.prog Tryz.f41.ntmps) = some (er ASm) := by kernel_rfl
theorem AZ6 : trR Tryz.prog Tryz.f41.results.toList = some ARd := by kernel_rfl
def AT8 := AE7 ANH.eq_1
def AYf := AE7 ASm.eq_1
theorem AXx {K : TV → Prop} {e : Env} {H : List Ob} : res ARd e H K = res [.tmp 4] e H K := AE9 rfl
def A0E := (And.intro (And.intro @AT8 @AYf) @AXx)
def AZj := AGG 31 Tryz.func41 A0A AZ6 rfl

def ANB : AFb := .seq (.ops [mv_ 70 13,
  mv_ 71 70,
  ⟨some 72, .p (.mov (.t 5)), some ⟨71, true⟩⟩,
  ⟨some 73, .p (.lenV (.t 72)), some ⟨71, true⟩⟩,
  ⟨some 74, .p (.bin 3 .eql (.t 73) (ci_ 0)), some ⟨71, true⟩⟩,
  po_ 75 (.pick (.t 71) (.t 74) (.c (.bool false))),
  mv_ 4 75] [4])
 (.ret)
def AN9 : AFb := .seq (.seq (.ops [mv_ 68 11,
  po_ 69 (.bin 3 .neq (.t 68) (ci_ 0))] [5, 13, 69])
 (.cond (.t 69)
 ANB
 (.skip)))
 (.seq (.ops [mv_ 76 5,
  so_ 77 (.call 12 [.t 76]),
  mv_ 14 77] [13, 14])
 (.seq (.ops [mv_ 78 13,
  mv_ 79 78,
  ⟨some 80, .p (.mov (.t 14)), some ⟨79, true⟩⟩,
  po_ 81 (.pick (.t 79) (.t 80) (.c (.bool false))),
  mv_ 4 81] [4])
 (.ret)))
def ANM : AFb := .seq (.ops [mv_ 66 1,
  so_ 67 (.call 12 [.t 66]),
  mv_ 13 67] [5, 11, 13])
 AN9
def ANN : AFb := .seq (.seq (.ops [mv_ 59 12,
  po_ 60 (.un .not (.t 59)),
  mv_ 61 60,
  ⟨some 62, .p (.mov (.t 7)), some ⟨61, false⟩⟩,
  ⟨some 63, .p (.mov (.t 11)), some ⟨61, false⟩⟩,
  ⟨some 64, .p (.bin 3 .neq (.t 62) (.t 63)), some ⟨61, false⟩⟩,
  po_ 65 (.pick (.t 61) (.c (.bool true)) (.t 64))] [1, 5, 11, 65])
 (.cond (.t 65)
 (.seq (.ops [po_ 4 (.mov (.c (.bool false)))] [4])
  (.ret))
 (.skip)))
 ANM
def ANu : AFb := .seq (.ops [mv_ 56 5,
  mv_ 57 10,
  so_ 58 (.call 11 [.t 56, .t 57]),
  mv_ 12 58] [1, 5, 7, 11, 12])
 ANN
def ANw : AFb := .seq (.ops [po_ 52 (.load true 27 (.t 9)),
  so_ 53 (.call 10 [.t 52]),
  mv_ 51 53,
  po_ 54 (.ext 0 (.t 51)),
  po_ 55 (.ext 1 (.t 51)),
  mv_ 10 54,
  mv_ 11 55] [1, 5, 7, 10, 11])
 ANu
def ANv : AFb := .seq (.ops [po_ 41 (.fieldA 0 0 (.t 2)),
  po_ 42 (.load true 20 (.t 41)),
  po_ 43 (.fieldA 1 20 (.t 2)),
  po_ 44 (.load false 1 (.t 43)),
  po_ 45 (.fieldA 2 21 (.t 2)),
  po_ 46 (.load false 1 (.t 45)),
  po_ 47 (.load true 4 (.t 8)),
  po_ 48 (.fieldA 4 26 (.t 2)),
  po_ 49 (.load false 1 (.t 48)),
  ⟨some 50, .p (.build [.arr 20 1 [.val (.int .u8 ((0 : Nat) : Int)), .val (.int .u8 ((0 : Nat) : Int)), .val (.int .u8 ((0 : Nat) : Int)), .val (.int .u8 ((0 : Nat) : Int)), .val (.int .u8 ((0 : Nat) : Int)), .val (.int .u8 ((0 : Nat) : Int)), .val (.int .u8 ((0 : Nat) : Int)), .val (.int .u8 ((0 : Nat) : Int)), .val (.int .u8 ((0 : Nat) : Int)), .val (.int .u8 ((0 : Nat) : Int)), .val (.int .u8 ((0 : Nat) : Int)), .val (.int .u8 ((0 : Nat) : Int)), .val (.int .u8 ((0 : Nat) : Int)), .val (.int .u8 ((0 : Nat) : Int)), .val (.int .u8 ((0 : Nat) : Int)), .val (.int .u8 ((0 : Nat) : Int)), .val (.int .u8 ((0 : Nat) : Int)), .val (.int .u8 ((0 : Nat) : Int)), .val (.int .u8 ((0 : Nat) : Int)), .val (.int .u8 ((0 : Nat) : Int))], .val (.int .i64 ((0 : Nat) : Int)), .val (.string (str [])), .agg [.val (.string (str [])), .val (.string (str [])), .val (.int .i64 ((0 : Nat) : Int)), .val (.int .i64 ((0 : Nat) : Int))], .val (.string (str []))] [20, 1, 1, 4, 1] [⟨0, .t 42⟩, ⟨1, .t 44⟩, ⟨2, .t 46⟩, ⟨3, .t 47⟩, ⟨4, .t 49⟩]), none⟩,
  so_ 9 (.alloc (.agg [.arr 20 1 [.val (.int .u8 ((0 : Nat) : Int)), .val (.int .u8 ((0 : Nat) : Int)), .val (.int .u8 ((0 : Nat) : Int)), .val (.int .u8 ((0 : Nat) : Int)), .val (.int .u8 ((0 : Nat) : Int)), .val (.int .u8 ((0 : Nat) : Int)), .val (.int .u8 ((0 : Nat) : Int)), .val (.int .u8 ((0 : Nat) : Int)), .val (.int .u8 ((0 : Nat) : Int)), .val (.int .u8 ((0 : Nat) : Int)), .val (.int .u8 ((0 : Nat) : Int)), .val (.int .u8 ((0 : Nat) : Int)), .val (.int .u8 ((0 : Nat) : Int)), .val (.int .u8 ((0 : Nat) : Int)), .val (.int .u8 ((0 : Nat) : Int)), .val (.int .u8 ((0 : Nat) : Int)), .val (.int .u8 ((0 : Nat) : Int)), .val (.int .u8 ((0 : Nat) : Int)), .val (.int .u8 ((0 : Nat) : Int)), .val (.int .u8 ((0 : Nat) : Int))], .val (.int .i64 ((0 : Nat) : Int)), .val (.string (str [])), .agg [.val (.string (str [])), .val (.string (str [])), .val (.int .i64 ((0 : Nat) : Int)), .val (.int .i64 ((0 : Nat) : Int))], .val (.string (str []))])),
  ⟨none, .s (.store 27 (.t 9) (.t 50)), none⟩] [1, 5, 7, 9])
 ANw
def AN3 : AFb := .seq (.ops [po_ 38 (.fieldA 3 22 (.t 2)),
  po_ 39 (.load true 4 (.t 38)),
  so_ 40 (.call 9 [.t 39]),
  so_ 8 (.alloc (.agg [.val (.string (str [])), .val (.string (str [])), .val (.int .i64 ((0 : Nat) : Int)), .val (.int .i64 ((0 : Nat) : Int))])),
  ⟨none, .s (.store 4 (.t 8) (.t 40)), none⟩] [1, 2, 5, 7, 8])
 ANv
def AN7 : AFb := .seq (.ops [mv_ 36 6,
  so_ 37 (.call 8 [.t 36]),
  mv_ 7 37] [1, 2, 5, 7])
 AN3
def AMU : AFb := .seq (.ops [po_ 32 (.load true 27 (.t 2)),
  so_ 33 (.call 7 [.t 32]),
  mv_ 31 33,
  po_ 34 (.ext 0 (.t 31)),
  po_ 35 (.ext 1 (.t 31)),
  mv_ 5 34,
  mv_ 6 35] [1, 2, 5, 6])
 AN7
def AMV : AFb := .seq (.seq (.ops [po_ 15 (.fieldA 4 26 (.t 2)),
  po_ 16 (.load false 1 (.t 15)),
  po_ 17 (.lenS (.t 16)),
  mv_ 18 1,
  po_ 19 (.lenV (.t 18)),
  po_ 20 (.bin 3 .add (.t 17) (.t 19)),
  po_ 21 (.fieldA 2 21 (.t 2)),
  po_ 22 (.load false 1 (.t 21)),
  po_ 23 (.lenS (.t 22)),
  po_ 24 (.bin 3 .add (.t 20) (.t 23)),
  po_ 25 (.fieldA 3 22 (.t 2)),
  po_ 26 (.fieldA 0 0 (.t 25)),
  po_ 27 (.load false 1 (.t 26)),
  po_ 28 (.lenS (.t 27)),
  po_ 29 (.bin 3 .add (.t 24) (.t 28)),
  po_ 30 (.bin 3 .gtr (.t 29) (ci_ 20000))] [1, 2, 30])
 (.cond (.t 30)
 (.seq (.ops [po_ 4 (.mov (.c (.bool true)))] [4])
  (.ret))
 (.skip)))
 AMU
def ARe : AFb := .seq (.ops [so_ 2 (.box (.t 0)),
  po_ 4 (.mov (.c (.bool false)))] [1, 2])
 AMV
def ASx : List VR := [.tmp 4]
theorem AZ4 : Tryz.f3.body.bind (trC Tryz.prog Tryz.f3.ntmps) = some (er ARe) := by kernel_rfl
theorem AZ2 : trR Tryz.prog Tryz.f3.results.toList = some ASx := by kernel_rfl
def ATW := AE7 ANB.eq_1
def ALP := AE7 AN9.eq_1
def ALJ := AE7 ANM.eq_1
def ALW := AE7 ANN.eq_1
def ALh := AE7 ANu.eq_1
def ALK := AE7 ANw.eq_1
def ALw := AE7 ANv.eq_1
def ALU := AE7 AN3.eq_1
def ALV := AE7 AN7.eq_1
def AST := AE7 AMU.eq_1
def ATe := AE7 AMV.eq_1
def AXG := AE7 ARe.eq_1
theorem AJT {K : TV → Prop} {e : Env} {H : List Ob} : res ASx e H K = res [.tmp 4] e H K := AE9 rfl
def AZd := AGG 82 Tryz.func3 AZ4 AZ2 rfl

def APm : AFb := .seq (.ops [mv_ 30 7,
  mv_ 31 30,
  ⟨some 32, .p (.mov (.t 6)), some ⟨31, true⟩⟩,
  ⟨some 33, .p (.bin 34 .eql (.t 32) (ci_ 23)), some ⟨31, true⟩⟩,
  po_ 34 (.pick (.t 31) (.t 33) (.c (.bool false))),
  mv_ 35 34,
  ⟨some 36, .p (.fieldA 2 21 (.t 4)), some ⟨35, true⟩⟩,
  ⟨some 37, .p (.load false 1 (.t 36)), some ⟨35, true⟩⟩,
  ⟨some 38, .p (.bin 9 .eql (.t 37) (.c (.string (str [])))), some ⟨35, true⟩⟩,
  po_ 39 (.pick (.t 35) (.t 38) (.c (.bool false))),
  mv_ 40 39,
  ⟨some 41, .p (.fieldA 1 20 (.t 4)), some ⟨40, true⟩⟩,
  ⟨some 42, .p (.load false 1 (.t 41)), some ⟨40, true⟩⟩,
  ⟨some 43, .p (.bin 24 .eql (.t 42) (ci_ 0)), some ⟨40, true⟩⟩,
  po_ 44 (.pick (.t 40) (.t 43) (.c (.bool false))),
  mv_ 2 44] [2])
 (.ret)
def APh : AFb := .cond (.t 29)
 APm
 (.skip)
def APv : AFb := .seq (.ops [mv_ 50 7,
  mv_ 51 50,
  ⟨some 52, .p (.mov (.t 10)), some ⟨51, true⟩⟩,
  po_ 53 (.pick (.t 51) (.t 52) (.c (.bool false))),
  mv_ 54 53,
  ⟨some 55, .p (.mov (.t 6)), some ⟨54, true⟩⟩,
  ⟨some 56, .p (.bin 34 .eql (.t 55) (ci_ 0)), some ⟨54, true⟩⟩,
  po_ 57 (.pick (.t 54) (.t 56) (.c (.bool false))),
  mv_ 58 57,
  ⟨some 59, .p (.fieldA 0 0 (.t 4)), some ⟨58, true⟩⟩,
  ⟨some 60, .p (.load true 20 (.t 59)), some ⟨58, true⟩⟩,
  ⟨some 61, .p (.fieldA 0 0 (.t 8)), some ⟨58, true⟩⟩,
  ⟨some 62, .p (.load true 20 (.t 61)), some ⟨58, true⟩⟩,
  ⟨some 63, .p (.gen (.eqA 20 false) [.t 60, .t 62]), some ⟨58, true⟩⟩,
  po_ 64 (.pick (.t 58) (.t 63) (.c (.bool false))),
  mv_ 65 64,
  ⟨some 66, .p (.fieldA 1 20 (.t 4)), some ⟨65, true⟩⟩,
  ⟨some 67, .p (.load false 1 (.t 66)), some ⟨65, true⟩⟩,
  ⟨some 68, .p (.fieldA 1 20 (.t 8)), some ⟨65, true⟩⟩,
  ⟨some 69, .p (.load false 1 (.t 68)), some ⟨65, true⟩⟩,
  ⟨some 70, .p (.bin 3 .eql (.t 67) (.t 69)), some ⟨65, true⟩⟩,
  po_ 71 (.pick (.t 65) (.t 70) (.c (.bool false))),
  mv_ 72 71,
  ⟨some 73, .p (.fieldA 2 21 (.t 4)), some ⟨72, true⟩⟩,
  ⟨some 74, .p (.load false 1 (.t 73)), some ⟨72, true⟩⟩,
  ⟨some 75, .p (.fieldA 2 21 (.t 8)), some ⟨72, true⟩⟩,
  ⟨some 76, .p (.load false 1 (.t 75)), some ⟨72, true⟩⟩,
  ⟨some 77, .p (.bin 9 .eql (.t 74) (.t 76)), some ⟨72, true⟩⟩,
  po_ 78 (.pick (.t 72) (.t 77) (.c (.bool false))),
  mv_ 79 78,
  ⟨some 80, .p (.fieldA 4 26 (.t 4)), some ⟨79, true⟩⟩,
  ⟨some 81, .p (.load false 1 (.t 80)), some ⟨79, true⟩⟩,
  ⟨some 82, .p (.fieldA 4 26 (.t 8)), some ⟨79, true⟩⟩,
  ⟨some 83, .p (.load false 1 (.t 82)), some ⟨79, true⟩⟩,
  ⟨some 84, .p (.bin 9 .eql (.t 81) (.t 83)), some ⟨79, true⟩⟩,
  po_ 85 (.pick (.t 79) (.t 84) (.c (.bool false))),
  mv_ 2 85] [2])
 (.ret)
def APk : AFb := .seq (.ops [po_ 45 (.fieldA 3 22 (.t 4)),
  po_ 46 (.load true 4 (.t 45)),
  po_ 47 (.fieldA 3 22 (.t 8)),
  po_ 48 (.load true 4 (.t 47)),
  so_ 49 (.call 41 [.t 46, .t 48]),
  mv_ 10 49] [4, 6, 7, 8, 10])
 APv
def APr : AFb := .seq (.seq (.ops [mv_ 28 9,
  po_ 29 (.un .not (.t 28))] [4, 6, 7, 8, 29])
 APh)
 APk
def APC : AFb := .seq (.ops [mv_ 24 0,
  so_ 25 (.call 40 [.t 24]),
  mv_ 23 25,
  po_ 26 (.ext 0 (.t 23)),
  po_ 27 (.ext 1 (.t 23)),
  so_ 8 (.alloc (.agg [.arr 20 1 [.val (.int .u8 ((0 : Nat) : Int)), .val (.int .u8 ((0 : Nat) : Int)), .val (.int .u8 ((0 : Nat) : Int)), .val (.int .u8 ((0 : Nat) : Int)), .val (.int .u8 ((0 : Nat) : Int)), .val (.int .u8 ((0 : Nat) : Int)), .val (.int .u8 ((0 : Nat) : Int)), .val (.int .u8 ((0 : Nat) : Int)), .val (.int .u8 ((0 : Nat) : Int)), .val (.int .u8 ((0 : Nat) : Int)), .val (.int .u8 ((0 : Nat) : Int)), .val (.int .u8 ((0 : Nat) : Int)), .val (.int .u8 ((0 : Nat) : Int)), .val (.int .u8 ((0 : Nat) : Int)), .val (.int .u8 ((0 : Nat) : Int)), .val (.int .u8 ((0 : Nat) : Int)), .val (.int .u8 ((0 : Nat) : Int)), .val (.int .u8 ((0 : Nat) : Int)), .val (.int .u8 ((0 : Nat) : Int)), .val (.int .u8 ((0 : Nat) : Int))], .val (.int .i64 ((0 : Nat) : Int)), .val (.string (str [])), .agg [.val (.string (str [])), .val (.string (str [])), .val (.int .i64 ((0 : Nat) : Int)), .val (.int .i64 ((0 : Nat) : Int))], .val (.string (str []))])),
  ⟨none, .s (.store 27 (.t 8) (.t 26)), none⟩,
  mv_ 9 27] [4, 6, 7, 8, 9])
 APr
def APx : AFb := .seq (.ops [mv_ 20 3,
  mv_ 21 0,
  so_ 22 (.call 39 [.t 20, .t 21]),
  mv_ 7 22] [0, 4, 6, 7])
 APC
def APe : AFb := .seq (.ops [mv_ 18 5,
  so_ 19 (.call 8 [.t 18]),
  mv_ 6 19] [0, 3, 4, 6])
 APx
def AO9 : AFb := .seq (.ops [mv_ 14 3,
  so_ 15 (.call 38 [.t 14]),
  mv_ 13 15,
  po_ 16 (.ext 0 (.t 13)),
  po_ 17 (.ext 1 (.t 13)),
  so_ 4 (.alloc (.agg [.arr 20 1 [.val (.int .u8 ((0 : Nat) : Int)), .val (.int .u8 ((0 : Nat) : Int)), .val (.int .u8 ((0 : Nat) : Int)), .val (.int .u8 ((0 : Nat) : Int)), .val (.int .u8 ((0 : Nat) : Int)), .val (.int .u8 ((0 : Nat) : Int)), .val (.int .u8 ((0 : Nat) : Int)), .val (.int .u8 ((0 : Nat) : Int)), .val (.int .u8 ((0 : Nat) : Int)), .val (.int .u8 ((0 : Nat) : Int)), .val (.int .u8 ((0 : Nat) : Int)), .val (.int .u8 ((0 : Nat) : Int)), .val (.int .u8 ((0 : Nat) : Int)), .val (.int .u8 ((0 : Nat) : Int)), .val (.int .u8 ((0 : Nat) : Int)), .val (.int .u8 ((0 : Nat) : Int)), .val (.int .u8 ((0 : Nat) : Int)), .val (.int .u8 ((0 : Nat) : Int)), .val (.int .u8 ((0 : Nat) : Int)), .val (.int .u8 ((0 : Nat) : Int))], .val (.int .i64 ((0 : Nat) : Int)), .val (.string (str [])), .agg [.val (.string (str [])), .val (.string (str [])), .val (.int .i64 ((0 : Nat) : Int)), .val (.int .i64 ((0 : Nat) : Int))], .val (.string (str []))])),
  ⟨none, .s (.store 27 (.t 4) (.t 16)), none⟩,
  mv_ 5 17] [0, 3, 4, 5])
 APe
def AOW : AFb := .seq (.ops [mv_ 11 0,
  so_ 12 (.call 37 [.t 11]),
  mv_ 3 12] [0, 3])
 AO9
def AVg : AFb := .seq (.ops [po_ 2 (.mov (.c (.bool false)))] [0])
 AOW
def AUq : List VR := [.tmp 2]
theorem A2T : Tryz.f12.body.bind (trC Tryz.prog Tryz.f12.ntmps) = some (er AVg) := by kernel_rfl
theorem A2N : trR Tryz.prog Tryz.f12.results.toList = some AUq := by kernel_rfl
def AWb := AE7 APm.eq_1
def ANQ := AE7 APh.eq_1
def AWe := AE7 APv.eq_1
def AWj := AE7 APk.eq_1
def ANJ := AE7 APr.eq_1
def AN0 := AE7 APC.eq_1
def ANI := AE7 APx.eq_1
def ANC := AE7 APe.eq_1
def AV4 := AE7 AO9.eq_1
def AVk := AE7 AOW.eq_1
def A0m := AE7 AVg.eq_1
theorem ARr {K : TV → Prop} {e : Env} {H : List Ob} : res AUq e H K = res [.tmp 2] e H K := AE9 rfl
def A1C := AGG 86 Tryz.func12 A2T A2N rfl

end Go.Proofs.YtliaddbbmnfioaaGreatDoor


namespace Go.Proofs.YtliaddbbmnfioaaGreatDoor
open Go.RowKit
variable [AFG]
set_option linter.unusedSectionVars false
set_option linter.unusedVariables false
set_option linter.unusedSimpArgs false

theorem BfY {s : List UInt8} (h60 : s.length ≤ 60) : decide (AJe s) = (!decide (∃ x ∈ s, x ∈ ([60, 62, 10, 0] : List UInt8)) && decide (Lib.trimB s 32 = s)) := by
 have e : AJe s ↔ (¬ ∃ x ∈ s, x ∈ ([60, 62, 10, 0] : List UInt8)) ∧ Lib.trimB s 32 = s := by
  rw [BaR]
  unfold AJe
  constructor
  ·rintro ⟨_, h2, h3, h4⟩
   refine ⟨?_, h3, h4⟩
   rintro ⟨x, hx, hm⟩
   obtain ⟨a, b, c, d⟩ := h2 x hx
   simp at hm
   rcases hm with hm | hm | hm | hm
   ·exact a hm
   ·exact b hm
   ·exact c hm
   ·exact d hm
  ·rintro ⟨h1, h3, h4⟩
   refine ⟨h60, fun c hc => ?_, h3, h4⟩
   refine ⟨?_, ?_, ?_, ?_⟩ <;> (intro e; exact h1 ⟨c, hc, by simp [e]⟩)
 simp only [e, Bool.decide_and, decide_not]
theorem Bgq (s : List UInt8) : AFE Tryz.prog 56 [ts s] (fun x => x = tb (decide (AJe s))) := by
 refine AFk.toPureV (A2u (by simp) ?_)
 by_cases h60 : s.length ≤ 60
 ·rw [BfY h60]
  simp -dsimp (disch := first | assumption | omega | (simp only [AE8]; done) | (simp only [AE8]; omega)) only [↓AFe, AFa, AFc, AFd, eq_self, Nat.reduceEqDiff, ↓reduceIte, reduceCtorEq, ↓AMt, AFi]
  refine (A5v s [60, 62, 10, 0] (by omega) (by decide) (by simp) (by simp)).calls rfl fun x hx => ?_
  subst hx
  generalize decide (∃ x ∈ s, x ∈ ([60, 62, 10, 0] : List UInt8)) = b
  cases b with
  | true =>
   simp -dsimp (disch := first | assumption | omega | (simp only [AE8]; done) | (simp only [AE8]; omega)) only [↓AFe, AFa, AFc, AFd, eq_self, Nat.reduceEqDiff, ↓reduceIte, ↓AMt]
   rfl
  | false =>
   simp -dsimp (disch := first | assumption | omega | (simp only [AE8]; done) | (simp only [AE8]; omega)) only [↓AFe, AFa, AFc, AFd, eq_self, Nat.reduceEqDiff, ↓reduceIte, reduceCtorEq]
   refine (Bf4 s 32 (by decide) (by omega)).calls rfl fun x hx => ?_
   subst hx
   simp -dsimp (disch := first | assumption | omega | (simp only [AE8]; done) | (simp only [AE8]; omega)) only [↓AFe, AFa, AFc, AFd, eq_self, Nat.reduceEqDiff, ↓reduceIte, reduceCtorEq, ↓AMt]
   simp
 ·have e : decide (AJe s) = false := by
   rw [decide_eq_false_iff_not]
   exact fun h => h60 h.1
  rw [e]
  simp -dsimp (disch := first | assumption | omega | (simp only [AE8]; done) | (simp only [AE8]; omega)) only [↓AFe, AFa, AFc, AFd, eq_self, Nat.reduceEqDiff, ↓reduceIte, reduceCtorEq, ↓AMt, AFi]
theorem A8N (s : List UInt8) : AFE Tryz.prog 28 [ts s] (fun x => x = tb (AOv s)) := by
 refine AFk.toPureV (AXM (by simp) ?_)
 unfold AOv
 by_cases h : s.length ≤ 2000
 ·simp -dsimp (disch := first | assumption | omega | (simp only [AE8]; done) | (simp only [AE8]; omega)) only [↓AFe, AFa, AFc, AFd, eq_self, Nat.reduceEqDiff, ↓reduceIte, reduceCtorEq, ↓AK3, AFi]
  refine (A6l s 0).calls rfl fun x hx => ?_
  subst hx
  simp -dsimp (disch := first | assumption | omega | (simp only [AE8]; done) | (simp only [AE8]; omega)) only [↓AFe, AFa, AFc, AFd, eq_self, Nat.reduceEqDiff, ↓reduceIte, ↓AK3]
  simp [h]
 ·simp -dsimp (disch := first | assumption | omega | (simp only [AE8]; done) | (simp only [AE8]; omega)) only [↓AFe, AFa, AFc, AFd, eq_self, Nat.reduceEqDiff, ↓reduceIte, reduceCtorEq, ↓AK3, AFi]
  simp [h]
theorem Bgu (s : List UInt8) (hs : s.length ≤ 1000000) : AFE Tryz.prog 27 [ts s] (fun x => x = tb (AMP s)) := by
 refine AFk.toPureV (A17 (by simp) ?_)
 have hlong : AZy = str letters := by rfl
 by_cases h0 : 0 < s.length
 ·by_cases h60 : s.length ≤ 60
  ·have e : AMP s = decide (Lib.trimS s letters = []) := by
    rw [Bool.eq_iff_iff, AVE, decide_eq_true_eq]
    exact ⟨fun h => h.2.2, fun h => ⟨h0, h60, h⟩⟩
   rw [e]
   simp -dsimp (disch := first | assumption | omega | (simp only [AE8]; done) | (simp only [AE8]; omega)) only [↓AFe, AFa, AFc, AFd, eq_self, Nat.reduceEqDiff, ↓reduceIte, reduceCtorEq, ↓AMr, AFi, hlong]
   refine (BeN s letters hs (by decide) (by decide)).calls rfl fun x hx => ?_
   subst hx
   simp -dsimp (disch := first | assumption | omega | (simp only [AE8]; done) | (simp only [AE8]; omega)) only [↓AFe, AFa, AFc, AFd, eq_self, Nat.reduceEqDiff, ↓reduceIte, ↓AMr]
  ·have e : AMP s = false := by unfold AMP; simp [h60]
   rw [e]
   simp -dsimp (disch := first | assumption | omega | (simp only [AE8]; done) | (simp only [AE8]; omega)) only [↓AFe, AFa, AFc, AFd, eq_self, Nat.reduceEqDiff, ↓reduceIte, reduceCtorEq, ↓AMr, AFi]
 ·have e : AMP s = false := by unfold AMP; simp [h0]
  rw [e]
  simp -dsimp (disch := first | assumption | omega | (simp only [AE8]; done) | (simp only [AE8]; omega)) only [↓AFe, AFa, AFc, AFd, eq_self, Nat.reduceEqDiff, ↓reduceIte, reduceCtorEq, ↓AMr, AFi]
end Go.Proofs.YtliaddbbmnfioaaGreatDoor


namespace Go.Proofs.YtliaddbbmnfioaaGreatDoor
open Go.RowKit
variable [AFG] [AFg]
set_option linter.unusedSectionVars false
set_option linter.unusedVariables false
set_option linter.unusedSimpArgs false

theorem A8f (n : Nat) : (Lib.decDigits n).length ≤ n + 1 := by
 induction n using Nat.strongRecOn with
 | _ n ih =>
  by_cases h : n < 10
  ·rw [Lib.decDigits_one h]; simp
  ·rw [Lib.decDigits, dif_neg h, List.length_append]
   have := ih (n / 10) (by omega)
   simp
   omega
theorem AYG {n m : List UInt8} {t z : Int} : AJl ⟨n, m, t, z⟩ = n ++ [32, 60] ++ m ++ [62, 32] ++ Lib.decDigits t.toNat ++ [32] ++ [if z < 0 then 45 else 43] ++ AVX z.natAbs := by
 simp [AJl, AIH, AY8]
abbrev AVC (p : Per) : TV := .agg [ts p.name, ts p.mail, i64 p.time, i64 p.zone]
/-- It fits. -/
def ANp (p : Per) : Prop := (-9223372036854775808 ≤ p.time ∧ p.time ≤ 9223372036854775807) ∧ (-9223372036854775808 ≤ p.zone ∧ p.zone ≤ 9223372036854775807)
def BdQ (p : Per) (r : TV) : Prop := (AGR p → r = .tup [ts (AJl p), tb true]) ∧ (¬ AGR p → r = .tup [ts [], tb false])
theorem Bmi {z : Nat} (h : z ≤ 840) : AHA 3 .quo (.int .i64 (z : Int)) (.int .i64 ((60 : Nat) : Int)) = some (.int .i64 ((z / 60 : Nat) : Int)) := Ba4 (by omega) (by omega)
theorem AUI (p : Per) (hp : ANp p) : AFE Tryz.prog 26 [AVC p] (BdQ p) := by
 refine AFk.toPureV (AUX (by simp) ?_)
 obtain ⟨n, m, t, z⟩ := p
 obtain ⟨⟨ht1, ht2⟩, hz1, hz2⟩ := hp
 unfold BdQ AGR
 simp only at *
 have hpn := Bgq n
 have hpm := Bgq m
 by_cases h1 : AJe n
 case neg =>
  simp -dsimp (disch := first | assumption | omega | (simp only [AE8]; done) | (simp only [AE8]; omega)) only [↓AFe, AFa, AFc, AFd, eq_self, Nat.reduceEqDiff, ↓reduceIte, ↓AGa, ↓AFN]
  refine hpn.calls rfl fun x hx => ?_
  subst hx
  simp -dsimp (disch := first | assumption | omega | (simp only [AE8]; done) | (simp only [AE8]; omega)) only [↓AFe, AFa, AFc, AFd, eq_self, Nat.reduceEqDiff, ↓reduceIte, decide_eq_false h1, ↓AFR]
  exact ⟨fun h => absurd h.1 h1, fun _ => by trivial⟩
 by_cases h2 : AJe m
 case neg =>
  simp -dsimp (disch := first | assumption | omega | (simp only [AE8]; done) | (simp only [AE8]; omega)) only [↓AFe, AFa, AFc, AFd, eq_self, Nat.reduceEqDiff, ↓reduceIte, ↓AGa, ↓AFN]
  refine hpn.calls rfl fun x hx => ?_
  subst hx
  simp -dsimp (disch := first | assumption | omega | (simp only [AE8]; done) | (simp only [AE8]; omega)) only [↓AFe, AFa, AFc, AFd, eq_self, Nat.reduceEqDiff, ↓reduceIte, Nat.reduceAdd, decide_eq_true h1]
  refine hpm.calls rfl fun x hx => ?_
  subst hx
  simp -dsimp (disch := first | assumption | omega | (simp only [AE8]; done) | (simp only [AE8]; omega)) only [↓AFe, AFa, AFc, AFd, eq_self, Nat.reduceEqDiff, ↓reduceIte, decide_eq_false h2, ↓AFR]
  exact ⟨fun h => absurd h.2.1 h2, fun _ => by trivial⟩
 by_cases h3 : t < 0
 case pos =>
  simp -dsimp (disch := first | assumption | omega | (simp only [AE8]; done) | (simp only [AE8]; omega)) only [↓AFe, AFa, AFc, AFd, eq_self, Nat.reduceEqDiff, ↓reduceIte, ↓AGa, ↓AFN]
  refine hpn.calls rfl fun x hx => ?_
  subst hx
  simp -dsimp (disch := first | assumption | omega | (simp only [AE8]; done) | (simp only [AE8]; omega)) only [↓AFe, AFa, AFc, AFd, eq_self, Nat.reduceEqDiff, ↓reduceIte, Nat.reduceAdd, decide_eq_true h1]
  refine hpm.calls rfl fun x hx => ?_
  subst hx
  simp -dsimp (disch := first | assumption | omega | (simp only [AE8]; done) | (simp only [AE8]; omega)) only [↓AFe, AFa, AFc, AFd, eq_self, Nat.reduceEqDiff, ↓reduceIte, Nat.reduceAdd, decide_eq_true h2, ↓AFR]
  exact ⟨fun h => by omega, fun _ => by trivial⟩
 by_cases h4 : t > 1099511627776
 case pos =>
  simp -dsimp (disch := first | assumption | omega | (simp only [AE8]; done) | (simp only [AE8]; omega)) only [↓AFe, AFa, AFc, AFd, eq_self, Nat.reduceEqDiff, ↓reduceIte, ↓AGa, ↓AFN]
  refine hpn.calls rfl fun x hx => ?_
  subst hx
  simp -dsimp (disch := first | assumption | omega | (simp only [AE8]; done) | (simp only [AE8]; omega)) only [↓AFe, AFa, AFc, AFd, eq_self, Nat.reduceEqDiff, ↓reduceIte, Nat.reduceAdd, decide_eq_true h1]
  refine hpm.calls rfl fun x hx => ?_
  subst hx
  simp -dsimp (disch := first | assumption | omega | (simp only [AE8]; done) | (simp only [AE8]; omega)) only [↓AFe, AFa, AFc, AFd, eq_self, Nat.reduceEqDiff, ↓reduceIte, Nat.reduceAdd, decide_eq_true h2, ↓AFR]
  exact ⟨fun h => by omega, fun _ => by trivial⟩
 by_cases h5 : z < -840
 case pos =>
  simp -dsimp (disch := first | assumption | omega | (simp only [AE8]; done) | (simp only [AE8]; omega)) only [↓AFe, AFa, AFc, AFd, eq_self, Nat.reduceEqDiff, ↓reduceIte, ↓AGa, ↓AFN]
  refine hpn.calls rfl fun x hx => ?_
  subst hx
  simp -dsimp (disch := first | assumption | omega | (simp only [AE8]; done) | (simp only [AE8]; omega)) only [↓AFe, AFa, AFc, AFd, eq_self, Nat.reduceEqDiff, ↓reduceIte, Nat.reduceAdd, decide_eq_true h1]
  refine hpm.calls rfl fun x hx => ?_
  subst hx
  simp -dsimp (disch := first | assumption | omega | (simp only [AE8]; done) | (simp only [AE8]; omega)) only [↓AFe, AFa, AFc, AFd, eq_self, Nat.reduceEqDiff, ↓reduceIte, Nat.reduceAdd, decide_eq_true h2, ↓AFR]
  exact ⟨fun h => by omega, fun _ => by trivial⟩
 by_cases h6 : z > 840
 case pos =>
  simp -dsimp (disch := first | assumption | omega | (simp only [AE8]; done) | (simp only [AE8]; omega)) only [↓AFe, AFa, AFc, AFd, eq_self, Nat.reduceEqDiff, ↓reduceIte, ↓AGa, ↓AFN]
  refine hpn.calls rfl fun x hx => ?_
  subst hx
  simp -dsimp (disch := first | assumption | omega | (simp only [AE8]; done) | (simp only [AE8]; omega)) only [↓AFe, AFa, AFc, AFd, eq_self, Nat.reduceEqDiff, ↓reduceIte, Nat.reduceAdd, decide_eq_true h1]
  refine hpm.calls rfl fun x hx => ?_
  subst hx
  simp -dsimp (disch := first | assumption | omega | (simp only [AE8]; done) | (simp only [AE8]; omega)) only [↓AFe, AFa, AFc, AFd, eq_self, Nat.reduceEqDiff, ↓reduceIte, Nat.reduceAdd, decide_eq_true h2, ↓AFR]
  exact ⟨fun h => by omega, fun _ => by trivial⟩
 have hneg : ∀ k : Nat, k ≤ 840 → unV .neg (.int .i64 (-(k : Int))) = some (.int .i64 (k : Int)) := fun k hk => by
  have e : Op.unary .neg (.int .i64 (-(k : Int))) = .pure (.int .i64 (IntKind.i64.wrap (0 - -(k : Int)))) := rfl
  unfold unV
  rw [e, Int.sub_neg, Int.zero_add, AGD (by omega) (by omega)]
 have ln : n.length ≤ 60 := h1.1
 have lm : m.length ≤ 60 := h2.1
 obtain ⟨tn, rfl⟩ : ∃ tn : Nat, t = (tn : Int) := ⟨t.toNat, by omega⟩
 have hti : Lib.itoa (tn : Int) = Lib.decDigits tn := by unfold Lib.itoa; rw [if_neg (by omega), Int.toNat_natCast]
 have ltn := A8f tn
 have hfi := A97 (tn : Int) (by omega) (by omega)
 rw [hti] at hfi
 simp -dsimp (disch := first | assumption | omega | (simp only [AE8]; done) | (simp only [AE8]; omega)) only [↓AFe, AFa, AFc, AFd, eq_self, Nat.reduceEqDiff, ↓reduceIte, ↓AGa, ↓AFN]
 refine hpn.calls rfl fun x hx => ?_
 subst hx
 simp -dsimp (disch := first | assumption | omega | (simp only [AE8]; done) | (simp only [AE8]; omega)) only [↓AFe, AFa, AFc, AFd, eq_self, Nat.reduceEqDiff, ↓reduceIte, Nat.reduceAdd, decide_eq_true h1]
 refine hpm.calls rfl fun x hx => ?_
 subst hx
 by_cases c : z < 0
 ·obtain ⟨zn, rfl⟩ : ∃ zn : Nat, z = -(zn : Int) := ⟨(-z).toNat, by omega⟩
  simp -dsimp (disch := first | assumption | omega | (simp only [AE8]; done) | (simp only [AE8]; omega)) only [↓AFe, AFa, AFc, AFd, eq_self, Nat.reduceEqDiff, ↓reduceIte, Nat.reduceAdd, decide_eq_true h2, ↓AJD, ↓AJy]
  simp -dsimp (disch := first | assumption | omega | (simp only [AE8]; done) | (simp only [AE8]; omega)) only [↓AFe, AFa, AFc, AFd, eq_self, Nat.reduceEqDiff, ↓reduceIte, hneg zn (by omega), Bmi (show zn ≤ 840 by omega), ↓AJO]
  refine (Bl2 ((10000 + zn / 60 * 100 + zn % 60 : Nat) : Int) (by omega) (by omega)).calls rfl fun x hx => ?_
  subst hx
  have hit : Lib.itoa ((10000 + zn / 60 * 100 + zn % 60 : Nat) : Int) = Lib.decDigits (10000 + zn / 60 * 100 + zn % 60) := by unfold Lib.itoa; rw [if_neg (by omega), Int.toNat_natCast]
  have hzi := A6j (show zn ≤ 840 by omega)
  rw [hit]
  have hdl : (Lib.decDigits (10000 + zn / 60 * 100 + zn % 60)).length = 5 := by rw [BoJ (by omega) (by omega)]; rfl
  have hta : (AVX zn).take 4 = AVX zn := rfl
  have lz := AU2 zn
  generalize Lib.decDigits (10000 + zn / 60 * 100 + zn % 60) = dd at *
  simp -dsimp (disch := first | assumption | omega | (simp only [AE8]; done) | (simp only [AE8]; omega)) only [↓AFe, AFa, AFc, AFd, eq_self, Nat.reduceEqDiff, Nat.reduceSub, ↓reduceIte, Nat.reduceAdd, Nat.reduceLeDiff, AFi, hdl, hzi, ↓AJJ, AS4]
  refine ⟨_, hfi.calls rfl fun r hr => ⟨hr, rfl⟩, ?_⟩
  simp -dsimp (disch := first | assumption | omega | (simp only [AE8]; done) | (simp only [AE8]; omega)) only [↓AFe, AFa, AFc, AFd, eq_self, Nat.reduceEqDiff, ↓reduceIte, AS4, ↓AFR]
  refine ⟨fun _ => ?_, ?_⟩
  rotate_left
  ·exact fun h => absurd ⟨h1, h2, by omega, by omega, by omega⟩ h
  rw [AYG, if_pos (by omega), Int.natAbs_neg, Int.natAbs_natCast, Int.toNat_natCast]
 ·obtain ⟨zn, rfl⟩ : ∃ zn : Nat, z = (zn : Int) := ⟨z.toNat, by omega⟩
  simp -dsimp (disch := first | assumption | omega | (simp only [AE8]; done) | (simp only [AE8]; omega)) only [↓AFe, AFa, AFc, AFd, eq_self, Nat.reduceEqDiff, ↓reduceIte, Nat.reduceAdd, decide_eq_true h2, ↓AJD, ↓AJy, ↓AJO, Bmi (show zn ≤ 840 by omega)]
  refine (Bl2 ((10000 + zn / 60 * 100 + zn % 60 : Nat) : Int) (by omega) (by omega)).calls rfl fun x hx => ?_
  subst hx
  have hit : Lib.itoa ((10000 + zn / 60 * 100 + zn % 60 : Nat) : Int) = Lib.decDigits (10000 + zn / 60 * 100 + zn % 60) := by unfold Lib.itoa; rw [if_neg (by omega), Int.toNat_natCast]
  have hzi := A6j (show zn ≤ 840 by omega)
  rw [hit]
  have hdl : (Lib.decDigits (10000 + zn / 60 * 100 + zn % 60)).length = 5 := by rw [BoJ (by omega) (by omega)]; rfl
  have hta : (AVX zn).take 4 = AVX zn := rfl
  have lz := AU2 zn
  generalize Lib.decDigits (10000 + zn / 60 * 100 + zn % 60) = dd at *
  simp -dsimp (disch := first | assumption | omega | (simp only [AE8]; done) | (simp only [AE8]; omega)) only [↓AFe, AFa, AFc, AFd, eq_self, Nat.reduceEqDiff, Nat.reduceSub, ↓reduceIte, Nat.reduceAdd, Nat.reduceLeDiff, AFi, hdl, hzi, ↓AJJ, AS4]
  refine ⟨_, hfi.calls rfl fun r hr => ⟨hr, rfl⟩, ?_⟩
  simp -dsimp (disch := first | assumption | omega | (simp only [AE8]; done) | (simp only [AE8]; omega)) only [↓AFe, AFa, AFc, AFd, eq_self, Nat.reduceEqDiff, ↓reduceIte, AS4, ↓AFR]
  refine ⟨fun _ => ?_, ?_⟩
  rotate_left
  ·exact fun h => absurd ⟨h1, h2, by omega, by omega, by omega⟩ h
  rw [AYG, if_neg (by omega), Int.natAbs_natCast, Int.toNat_natCast]
end Go.Proofs.YtliaddbbmnfioaaGreatDoor


namespace Go.Proofs.YtliaddbbmnfioaaGreatDoor
open Go.RowKit
variable [AFG] [AFg] [AFp] [AFr] [AIJ]
set_option linter.unusedSectionVars false
set_option linter.unusedVariables false
set_option linter.unusedSimpArgs false

section
omit [AFG] [AFg] [AFp] [AFr] [AIJ]
theorem A7G (s p : List UInt8) : (Lib.cut s p).1.length ≤ s.length ∧ (Lib.cut s p).2.1.length ≤ s.length := by
 unfold Lib.cut
 split
 ·simp; omega
 ·simp
end
theorem Bai {s : List UInt8} {n : Nat} (h : AOI s = some n) : n < 4611686018427387904 := by
 unfold AOI pU at h
 split at h
 ·rename_i m hm
  split at hm
  ·rename_i h3
   split at h
   ·cases h; cases hm; exact h3.2.2
   ·cases h
  ·cases hm
 ·cases h
/-- What ReadPerson says. -/
def A3t (s : List UInt8) (r : TV) : Prop := (∀ p, AGR p → AJl p = s → r = .tup [AVC p, tb true]) ∧ ((∀ p, AGR p → AJl p ≠ s) → ∃ q, ANp q ∧ r = .tup [AVC q, tb false])
theorem A7X (s : List UInt8) (hs : s.length ≤ 1000000) : AFE Tryz.prog 106 [ts s] (A3t s) := by
 refine AFk.toPureV (AWp (by simp) ?_)
 simp -dsimp (disch := first | assumption | omega | (simp only [AE8]; done) | (simp only [AE8]; omega)) only [↓AFe, AFa, AFc, AFd, eq_self, Nat.reduceEqDiff, ↓reduceIte, reduceCtorEq, ↓AUG, ↓AQD]
 refine (BeB s [32, 60] hs).calls rfl fun x hx => ?_
 subst hx
 obtain ⟨l1, l1'⟩ := A7G s [32, 60]
 obtain ⟨l2, l2'⟩ := A7G (Lib.cut s [32, 60]).2.1 [62, 32]
 obtain ⟨l3, l3'⟩ := A7G (Lib.cut (Lib.cut s [32, 60]).2.1 [62, 32]).2.1 [32]
 have hex : ∀ p, AGR p → AJl p = s → (Lib.cut s [32, 60]).2.2 = true ∧ (Lib.cut (Lib.cut s [32, 60]).2.1 [62, 32]).2.2 = true ∧ (Lib.cut (Lib.cut (Lib.cut s [32, 60]).2.1 [62, 32]).2.1 [32]).2.2 = true
   ∧ AOI (Lib.cut (Lib.cut (Lib.cut s [32, 60]).2.1 [62, 32]).2.1 [32]).1 = some p.time.toNat ∧ (Lib.cut (Lib.cut (Lib.cut s [32, 60]).2.1 [62, 32]).2.1 [32]).2.1 = AIH p
   ∧ (Lib.cut s [32, 60]).1 = p.name ∧ (Lib.cut (Lib.cut s [32, 60]).2.1 [62, 32]).1 = p.mail := by
  rintro p hp rfl
  obtain ⟨c1, c2, c3, c4⟩ := A4p hp
  rw [c1, c2, c3]
  exact ⟨rfl, rfl, rfl, c4, rfl, rfl, rfl⟩
 have hc2 := BeB (Lib.cut s [32, 60]).2.1 [62, 32] (by omega)
 have hc3 := BeB (Lib.cut (Lib.cut s [32, 60]).2.1 [62, 32]).2.1 [32] (by omega)
 generalize hr1 : Lib.cut s [32, 60] = r1 at *
 obtain ⟨n, rest, a⟩ := r1
 simp only at *
 simp -dsimp (disch := first | assumption | omega | (simp only [AE8]; done) | (simp only [AE8]; omega)) only [↓AFe, AFa, AFc, AFd, eq_self, Nat.reduceEqDiff, ↓reduceIte, reduceCtorEq, ↓AQL]
 refine hc2.calls rfl fun x hx => ?_
 subst hx
 generalize hr2 : Lib.cut rest [62, 32] = r2 at *
 obtain ⟨m, rest2, b⟩ := r2
 simp only at *
 simp -dsimp (disch := first | assumption | omega | (simp only [AE8]; done) | (simp only [AE8]; omega)) only [↓AFe, AFa, AFc, AFd, eq_self, Nat.reduceEqDiff, ↓reduceIte, reduceCtorEq, ↓ASe]
 refine hc3.calls rfl fun x hx => ?_
 subst hx
 generalize hr3 : Lib.cut rest2 [32] = r3 at *
 obtain ⟨tm, zn, c⟩ := r3
 simp only at *
 simp -dsimp (disch := first | assumption | omega | (simp only [AE8]; done) | (simp only [AE8]; omega)) only [↓AFe, AFa, AFc, AFd, eq_self, Nat.reduceEqDiff, ↓reduceIte, reduceCtorEq, ↓ARm]
 refine (Bf2 tm (by omega)).calls rfl fun x hx => ?_
 have no : ∀ {r : TV}, (¬ (a = true ∧ b = true ∧ c = true ∧ (∃ t, AOI tm = some t) ∧ zn.length = 5)) → (∃ q, ANp q ∧ r = .tup [AVC q, tb false]) → A3t s r := fun {r} h hq => by
  refine ⟨fun p hp e => ?_, fun _ => hq⟩
  obtain ⟨e1, e2, e3, e4, e5, _⟩ := hex p hp e
  exact absurd ⟨e1, e2, e3, ⟨_, e4⟩, by rw [e5]; rfl⟩ h
 have f0 : ANp ⟨[], [], 0, 0⟩ := ⟨⟨by decide, by decide⟩, by decide, by decide⟩
 cases hd : AOI tm with
 | none =>
  obtain ⟨z, rfl⟩ := hx.2 hd
  have hno : ¬ (a = true ∧ b = true ∧ c = true ∧ (∃ t, AOI tm = some t) ∧ zn.length = 5) := fun h => by
   obtain ⟨t, ht⟩ := h.2.2.2.1
   rw [hd] at ht; cases ht
  simp -dsimp (disch := first | assumption | omega | (simp only [AE8]; done) | (simp only [AE8]; omega)) only [↓AFe, AFa, AFc, AFd, eq_self, Nat.reduceEqDiff, ↓reduceIte, reduceCtorEq, ↓AIx]
  cases a <;> cases b <;> cases c
  all_goals
   simp -dsimp (disch := first | assumption | omega | (simp only [AE8]; done) | (simp only [AE8]; omega)) only [↓AFe, AFa, AFc, AFd, eq_self, Nat.reduceEqDiff, ↓reduceIte, Nat.reduceAdd, reduceCtorEq, ↓AFu]
   exact no hno ⟨⟨[], [], 0, 0⟩, f0, rfl⟩
 | some t =>
  rw [hx.1 t hd]
  have ht62 := Bai hd
  by_cases hgo : a = true ∧ b = true ∧ c = true ∧ zn.length = 5
  case neg =>
   have hno : ¬ (a = true ∧ b = true ∧ c = true ∧ (∃ t, AOI tm = some t) ∧ zn.length = 5) := fun h => hgo ⟨h.1, h.2.1, h.2.2.1, h.2.2.2.2⟩
   simp -dsimp (disch := first | assumption | omega | (simp only [AE8]; done) | (simp only [AE8]; omega)) only [↓AFe, AFa, AFc, AFd, eq_self, Nat.reduceEqDiff, ↓reduceIte, reduceCtorEq, ↓AIx]
   cases a <;> cases b <;> cases c
   all_goals
    first
    | (
     simp -dsimp (disch := first | assumption | omega | (simp only [AE8]; done) | (simp only [AE8]; omega)) only [↓AFe, AFa, AFc, AFd, eq_self, Nat.reduceEqDiff, ↓reduceIte, Nat.reduceAdd, reduceCtorEq, AFi, ↓AFu]
     exact no hno ⟨⟨[], [], 0, 0⟩, f0, rfl⟩)
    | (
     have h5 : ¬ zn.length = 5 := fun h => hgo ⟨rfl, rfl, rfl, h⟩
     simp -dsimp (disch := first | assumption | omega | (simp only [AE8]; done) | (simp only [AE8]; omega)) only [↓AFe, AFa, AFc, AFd, eq_self, Nat.reduceEqDiff, ↓reduceIte, Nat.reduceAdd, reduceCtorEq, AFi, ↓AFu]
     exact no hno ⟨⟨[], [], 0, 0⟩, f0, rfl⟩)
  obtain ⟨rfl, rfl, rfl, h5⟩ := hgo
  obtain ⟨z0, zr, rfl, hz4⟩ : ∃ z0 zr, zn = z0 :: zr ∧ zr.length = 4 := by
   cases zn with
   | nil => simp at h5
   | cons z0 zr => exact ⟨z0, zr, rfl, by simpa using h5⟩
  simp -dsimp (disch := first | assumption | omega | (simp only [AE8]; done) | (simp only [AE8]; omega)) only [↓AFe, AFa, AFc, AFd, eq_self, Nat.reduceEqDiff, ↓reduceIte, reduceCtorEq, Nat.reduceLeDiff, AFi, ↓AIx, ↓ARp]
  refine (A59 zr (by omega)).calls rfl fun x hx => ?_
  obtain ⟨v, er, hv, rfl, her⟩ : ∃ (v : Nat) (er : TV), v ≤ 1048575 ∧ x = .tup [.val (.int .u64 (v : Int)), er] ∧ ((er = .val .nilIface ∧ pV zr = some v) ∨ (er = .ifc 229 .any ∧ pV zr = none)) := by
   cases hp : pV zr with
   | some v =>
    refine ⟨v, _, ?_, hx.1 v hp, .inl ⟨rfl, rfl⟩⟩
    unfold pV at hp
    split at hp
    ·rename_i h3; cases hp; have := h3.2.2; omega
    ·cases hp
   | none =>
    obtain ⟨m, hm, rfl⟩ := hx.2 hp
    exact ⟨m, _, hm, rfl, .inr ⟨rfl, rfl⟩⟩
  have hwr : IntKind.i64.wrap ((v / 100 * 60 + v % 100 : Nat) : Int) = ((v / 100 * 60 + v % 100 : Nat) : Int) := AGD (by omega) (by omega)
  have hq : AFo er = 1 ∧ lays er = true ∧ AZ5 er = false ∧ AGZ er = false := by
   rcases her with ⟨rfl, _⟩ | ⟨rfl, _⟩ <;> exact ⟨rfl, rfl, rfl, rfl⟩
  obtain ⟨w1, w2, w3, w4⟩ := hq
  simp -dsimp (disch := first | assumption | omega | (simp only [AE8]; done) | (simp only [AE8]; omega)) only [↓AFe, AFa, AFc, AFd, eq_self, Nat.reduceEqDiff, ↓reduceIte, Nat.reduceAdd, reduceCtorEq, ↓ARS, A8c, A4x, BfV, hwr, ↓ASA]
  have hzone : ∀ p, AGR p → AJl p = s → zr = AVX p.zone.natAbs ∧ z0 = AY8 p.zone ∧ v / 100 * 60 + v % 100 = p.zone.natAbs ∧ pV zr ≠ none ∧ n = p.name ∧ m = p.mail ∧ (t : Int) = p.time := by
   intro p hp e
   obtain ⟨_, _, _, e4, e5, e6, e7⟩ := hex p hp e
   unfold AIH at e5
   obtain ⟨e8, e9⟩ := List.cons.inj e5
   obtain ⟨_, _, g1, _, g2, g3⟩ := hp
   have hn := A4H (show p.zone.natAbs ≤ 840 by omega)
   rw [← e9] at hn
   have hvv : v = p.zone.natAbs / 60 * 100 + p.zone.natAbs % 60 := by
    rcases her with ⟨_, h⟩ | ⟨_, h⟩
    ·rw [hn] at h; exact (Option.some.inj h).symm
    ·rw [hn] at h; cases h
   have htt : t = p.time.toNat := Option.some.inj (hd.symm.trans e4)
   refine ⟨e9, e8, ?_, by rw [hn]; simp, e6, e7, by omega⟩
   rw [hvv]
   exact A2R
  by_cases hz0 : z0.toNat = 45
  ·obtain ⟨q, hq⟩ : ∃ q : Per, q = ⟨n, m, (t : Int), -((v / 100 * 60 + v % 100 : Nat) : Int)⟩ := ⟨_, rfl⟩
   have hz45 : z0 = 45 := UInt8.toNat_inj.1 hz0
   have key : ∀ p, AGR p → AJl p = s → p = q ∧ pV zr ≠ none := fun p hp e => by
    obtain ⟨_, h2, h3, h4, h5, h6, h7⟩ := hzone p hp e
    refine ⟨?_, h4⟩
    rw [hz45] at h2
    unfold AY8 at h2
    split at h2
    ·obtain ⟨pn, pm, pt, pz⟩ := p
     simp only at *
     rw [hq, h5, h6, h7, h3]
     congr 1
     omega
    ·cases h2
   have hfit : ANp q := by subst hq; exact ⟨⟨by simp only; omega, by simp only; omega⟩, by simp only; omega, by simp only; omega⟩
   have hneg : unV .neg (.int .i64 ((v / 100 * 60 + v % 100 : Nat) : Int)) = some (.int .i64 (-((v / 100 * 60 + v % 100 : Nat) : Int))) := by
    have e : Op.unary .neg (.int .i64 ((v / 100 * 60 + v % 100 : Nat) : Int)) = .pure (.int .i64 (IntKind.i64.wrap (0 - ((v / 100 * 60 + v % 100 : Nat) : Int)))) := rfl
    unfold unV
    rw [e, Int.zero_sub, AGD (by omega) (by omega)]
   have hqT : AVC q = .agg [ts n, ts m, i64 (t : Int), i64 (-((v / 100 * 60 + v % 100 : Nat) : Int))] := by rw [hq]
   simp -dsimp (disch := first | assumption | omega | (simp only [AE8]; done) | (simp only [AE8]; omega)) only [↓AFe, AFa, AFc, AFd, eq_self, Nat.reduceEqDiff, ↓reduceIte, Nat.reduceAdd, reduceCtorEq, AFi, hz0, hneg]
   rw [show TV.agg [ts n, ts m, i64 (t : Int), TV.val (Value.int IntKind.i64 (-((v / 100 * 60 + v % 100 : Nat) : Int)))] = AVC q by rw [hq]]
   clear hq hqT hneg
   have fin : ∀ β : Bool, (β = true ↔ pV zr ≠ none ∧ AGR q ∧ AJl q = s) → A3t s (.tup [AVC q, tb β]) := fun β hβ => by
    refine ⟨fun p hp e => ?_, fun h => ?_⟩
    ·obtain ⟨rfl, hv2⟩ := key p hp e
     rw [hβ.2 ⟨hv2, hp, e⟩]
    ·refine ⟨q, hfit, ?_⟩
     cases β with
     | false => rfl
     | true => exact absurd (hβ.1 rfl).2.2 (h q (hβ.1 rfl).2.1)
   simp -dsimp (disch := first | assumption | omega | (simp only [AE8]; done) | (simp only [AE8]; omega)) only [↓AFe, AFa, AFc, AFd, eq_self, Nat.reduceEqDiff, ↓reduceIte, Nat.reduceAdd, reduceCtorEq, ↓AJX]
   refine (AUI q hfit).calls rfl fun x hx => ?_
   by_cases hok : AGR q
   ·rw [hx.1 hok]
    rcases her with ⟨rfl, hv2⟩ | ⟨rfl, hv2⟩
    ·simp -dsimp (disch := first | assumption | omega | (simp only [AE8]; done) | (simp only [AE8]; omega)) only [↓AFe, AFa, AFc, AFd, eq_self, Nat.reduceEqDiff, ↓reduceIte, Nat.reduceAdd, reduceCtorEq, ↓AFI]
     by_cases heq : AJl q = s
     ·simp -dsimp (disch := first | assumption | omega | (simp only [AE8]; done) | (simp only [AE8]; omega)) only [↓AFe, AFa, AFc, AFd, eq_self, Nat.reduceEqDiff, ↓reduceIte, Nat.reduceAdd, heq, ↓AFu]
      exact fin true ⟨fun _ => ⟨by rw [hv2]; simp, hok, heq⟩, fun _ => rfl⟩
     ·simp -dsimp (disch := first | assumption | omega | (simp only [AE8]; done) | (simp only [AE8]; omega)) only [↓AFe, AFa, AFc, AFd, eq_self, Nat.reduceEqDiff, ↓reduceIte, Nat.reduceAdd, heq, ↓AFu]
      exact fin false ⟨fun h => (by cases h), fun h => absurd h.2.2 heq⟩
    ·simp -dsimp (disch := first | assumption | omega | (simp only [AE8]; done) | (simp only [AE8]; omega)) only [↓AFe, AFa, AFc, AFd, eq_self, Nat.reduceEqDiff, ↓reduceIte, Nat.reduceAdd, reduceCtorEq, ↓AFI, ↓AFu]
     exact fin false ⟨fun h => (by cases h), fun h => absurd hv2 h.1⟩
   ·rw [hx.2 hok]
    rcases her with ⟨rfl, hv2⟩ | ⟨rfl, hv2⟩
    ·simp -dsimp (disch := first | assumption | omega | (simp only [AE8]; done) | (simp only [AE8]; omega)) only [↓AFe, AFa, AFc, AFd, eq_self, Nat.reduceEqDiff, ↓reduceIte, Nat.reduceAdd, reduceCtorEq, ↓AFI, ↓AFu]
     exact fin false ⟨fun h => (by cases h), fun h => absurd h.2.1 hok⟩
    ·simp -dsimp (disch := first | assumption | omega | (simp only [AE8]; done) | (simp only [AE8]; omega)) only [↓AFe, AFa, AFc, AFd, eq_self, Nat.reduceEqDiff, ↓reduceIte, Nat.reduceAdd, reduceCtorEq, ↓AFI, ↓AFu]
     exact fin false ⟨fun h => (by cases h), fun h => absurd h.2.1 hok⟩
  ·obtain ⟨q, hq⟩ : ∃ q : Per, q = ⟨n, m, (t : Int), ((v / 100 * 60 + v % 100 : Nat) : Int)⟩ := ⟨_, rfl⟩
   have key : ∀ p, AGR p → AJl p = s → p = q ∧ pV zr ≠ none := fun p hp e => by
    obtain ⟨_, h2, h3, h4, h5, h6, h7⟩ := hzone p hp e
    refine ⟨?_, h4⟩
    unfold AY8 at h2
    split at h2
    ·exact absurd (by rw [h2]; rfl) hz0
    ·obtain ⟨pn, pm, pt, pz⟩ := p
     simp only at *
     rw [hq, h5, h6, h7, h3]
     congr 1
     omega
   have hfit : ANp q := by subst hq; exact ⟨⟨by simp only; omega, by simp only; omega⟩, by simp only; omega, by simp only; omega⟩
   simp -dsimp (disch := first | assumption | omega | (simp only [AE8]; done) | (simp only [AE8]; omega)) only [↓AFe, AFa, AFc, AFd, eq_self, Nat.reduceEqDiff, ↓reduceIte, reduceCtorEq, AFi, hz0]
   rw [show TV.agg [ts n, ts m, i64 (t : Int), TV.val (Value.int IntKind.i64 ((v / 100 * 60 + v % 100 : Nat) : Int))] = AVC q by rw [hq]]
   clear hq
   have fin : ∀ β : Bool, (β = true ↔ pV zr ≠ none ∧ AGR q ∧ AJl q = s) → A3t s (.tup [AVC q, tb β]) := fun β hβ => by
    refine ⟨fun p hp e => ?_, fun h => ?_⟩
    ·obtain ⟨rfl, hv2⟩ := key p hp e
     rw [hβ.2 ⟨hv2, hp, e⟩]
    ·refine ⟨q, hfit, ?_⟩
     cases β with
     | false => rfl
     | true => exact absurd (hβ.1 rfl).2.2 (h q (hβ.1 rfl).2.1)
   simp -dsimp (disch := first | assumption | omega | (simp only [AE8]; done) | (simp only [AE8]; omega)) only [↓AFe, AFa, AFc, AFd, eq_self, Nat.reduceEqDiff, ↓reduceIte, Nat.reduceAdd, reduceCtorEq, ↓AJX]
   refine (AUI q hfit).calls rfl fun x hx => ?_
   by_cases hok : AGR q
   ·rw [hx.1 hok]
    rcases her with ⟨rfl, hv2⟩ | ⟨rfl, hv2⟩
    ·simp -dsimp (disch := first | assumption | omega | (simp only [AE8]; done) | (simp only [AE8]; omega)) only [↓AFe, AFa, AFc, AFd, eq_self, Nat.reduceEqDiff, ↓reduceIte, Nat.reduceAdd, reduceCtorEq, ↓AFI]
     by_cases heq : AJl q = s
     ·simp -dsimp (disch := first | assumption | omega | (simp only [AE8]; done) | (simp only [AE8]; omega)) only [↓AFe, AFa, AFc, AFd, eq_self, Nat.reduceEqDiff, ↓reduceIte, Nat.reduceAdd, heq, ↓AFu]
      exact fin true ⟨fun _ => ⟨by rw [hv2]; simp, hok, heq⟩, fun _ => rfl⟩
     ·simp -dsimp (disch := first | assumption | omega | (simp only [AE8]; done) | (simp only [AE8]; omega)) only [↓AFe, AFa, AFc, AFd, eq_self, Nat.reduceEqDiff, ↓reduceIte, Nat.reduceAdd, heq, ↓AFu]
      exact fin false ⟨fun h => (by cases h), fun h => absurd h.2.2 heq⟩
    ·simp -dsimp (disch := first | assumption | omega | (simp only [AE8]; done) | (simp only [AE8]; omega)) only [↓AFe, AFa, AFc, AFd, eq_self, Nat.reduceEqDiff, ↓reduceIte, Nat.reduceAdd, reduceCtorEq, ↓AFI, ↓AFu]
     exact fin false ⟨fun h => (by cases h), fun h => absurd hv2 h.1⟩
   ·rw [hx.2 hok]
    rcases her with ⟨rfl, hv2⟩ | ⟨rfl, hv2⟩
    ·simp -dsimp (disch := first | assumption | omega | (simp only [AE8]; done) | (simp only [AE8]; omega)) only [↓AFe, AFa, AFc, AFd, eq_self, Nat.reduceEqDiff, ↓reduceIte, Nat.reduceAdd, reduceCtorEq, ↓AFI, ↓AFu]
     exact fin false ⟨fun h => (by cases h), fun h => absurd h.2.1 hok⟩
    ·simp -dsimp (disch := first | assumption | omega | (simp only [AE8]; done) | (simp only [AE8]; omega)) only [↓AFe, AFa, AFc, AFd, eq_self, Nat.reduceEqDiff, ↓reduceIte, Nat.reduceAdd, reduceCtorEq, ↓AFI, ↓AFu]
     exact fin false ⟨fun h => (by cases h), fun h => absurd h.2.1 hok⟩
end Go.Proofs.YtliaddbbmnfioaaGreatDoor


namespace Go.Proofs.YtliaddbbmnfioaaGreatDoor
variable [AFG]
set_option linter.unusedSectionVars false
set_option linter.unusedVariables false
set_option linter.defProp false
set_option maxRecDepth 100000

def AUf : AFb := .seq (.ops [po_ 8 (.bin 3 .lss (.t 7) (ci_ 20))] [3, 6, 7, 8])
 (.seq (.cond (.t 8)
 (.skip)
 (.exit 0))
 (.seq (.block 1 (.seq (.ops [po_ 9 (.idx false 20 1 (.t 6) (.t 7)),
  mv_ 5 9] [3, 5, 6, 7])
 (.seq (.ops [mv_ 10 5,
  po_ 11 (.bin 5 .shr (.t 10) (.c (.int .u64 ((4 : Nat) : Int)))),
  po_ 12 (.idxS (.c (.string (str [48, 49, 50, 51, 52, 53, 54, 55, 56, 57, 97, 98, 99, 100, 101, 102]))) (.t 11)),
  so_ 13 (.call 63 [.t 3, .t 12])] [3, 5, 6, 7])
 (.ops [mv_ 14 5,
  po_ 15 (.bin 5 .and (.t 14) (.c (.int .u8 ((15 : Nat) : Int)))),
  po_ 16 (.idxS (.c (.string (str [48, 49, 50, 51, 52, 53, 54, 55, 56, 57, 97, 98, 99, 100, 101, 102]))) (.t 15)),
  so_ 17 (.call 63 [.t 3, .t 16])] [3, 6, 7]))))
 (.ops [po_ 18 (.bin 3 .add (.t 7) (ci_ 1)),
  mv_ 7 18] [3, 6, 7])))
def AUm : AFb := .block 0 (.ownT 3 [(1, 1)] 5 (.loop [3, 6, 7] AUf))
def AVh : AFb := .seq (.ops [so_ 19 (.bstr 62 (.t 3)),
  mv_ 2 19] [2])
 (.ret)
def AUQ : AFb := .seq (.seq (.ops [po_ 6 (.load true 20 (.t 1)),
  po_ 7 (.mov (ci_ 0))] [3, 6, 7])
 AUm)
 AVh
def AVp : AFb := .seq (.ops [so_ 3 (.allocT (.agg [.val (.pointer none), .val (.slice none 0 0)]) 118)] [1, 3])
 AUQ
def A00 : AFb := .seq (.ops [so_ 1 (.box (.t 0)),
  po_ 2 (.mov (.c (.string (str []))))] [1])
 AVp
def A04 : List VR := [.tmp 2]
theorem A5z : Tryz.f30.body.bind (trC Tryz.prog Tryz.f30.ntmps) = some (er A00) := by kernel_rfl
theorem A5C : trR Tryz.prog Tryz.f30.results.toList = some A04 := by kernel_rfl
def A0x := AE7 AUf.eq_1
def AZX := AE7 AUm.eq_1
def AZS := AE7 AVh.eq_1
def A0q := AE7 AUQ.eq_1
def AZJ := AE7 AVp.eq_1
def A3A := AE7 A00.eq_1
theorem A3a {K : TV → Prop} {e : Env} {H : List Ob} : res A04 e H K = res [.tmp 2] e H K := AE9 rfl
def AUl := (And.intro (And.intro (And.intro @A0x @AZX) (And.intro @AZS @A0q)) (And.intro (And.intro @AZJ @A3A) @A3a))
def A4Y := AGG 20 Tryz.func30 A5z A5C rfl

def AZa : AFb := .seq (.block 1 (.draw 10 [mv_ 9 3,
  mv_ 10 4,
  po_ 11 (.idxAA 20 1 (.t 1) (.t 10)),
  po_ 12 (.load false 1 (.t 11)),
  po_ 13 (.bin 5 .quo (.t 12) (.c (.int .u8 ((16 : Nat) : Int)))),
  so_ 14 (.call 70 [.t 13]),
  mv_ 15 4,
  po_ 16 (.idxAA 20 1 (.t 1) (.t 15)),
  po_ 17 (.load false 1 (.t 16)),
  po_ 18 (.bin 5 .rem (.t 17) (.c (.int .u8 ((16 : Nat) : Int)))),
  so_ 19 (.call 70 [.t 18]),
  ⟨some 20, .s (.bslice 1 2 (.val (.int .u8 ((0 : Nat) : Int))) [⟨0, .t 14⟩, ⟨1, .t 19⟩]), none⟩,
  so_ 21 (.app 1 1 5 (.t 9) (.t 20)),
  mv_ 3 21] [1, 3, 4]))
 (.ops [mv_ 7 4,
  po_ 8 (.bin 3 .add (.t 7) (ci_ 1)),
  mv_ 4 8] [1, 3, 4])
def AYF : AFb := .seq (.seq (.ops [mv_ 5 4,
  po_ 6 (.bin 3 .lss (.t 5) (ci_ 20))] [1, 3, 4, 6])
 (.cond (.t 6)
 (.skip)
 (.exit 0)))
 AZa
def AYO : AFb := .block 0 (.own 3 1 (.loop [1, 3, 4] AYF))
def AZk : AFb := .seq (.ops [mv_ 22 3,
  po_ 23 (.b2s (.t 22)),
  mv_ 2 23] [2])
 (.ret)
def AYI : AFb := .seq (.seq (.ops [po_ 4 (.mov (ci_ 0))] [1, 3, 4])
 AYO)
 AZk
def AZg : AFb := .seq (.ops [po_ 3 (.mov (.c (.slice none 0 0)))] [1, 3])
 AYI
def A39 : AFb := .seq (.ops [so_ 1 (.box (.t 0)),
  po_ 2 (.mov (.c (.string (str []))))] [1])
 AZg
def A3V : List VR := [.tmp 2]
theorem A87 : Tryz.f36.body.bind (trC Tryz.prog Tryz.f36.ntmps) = some (er A39) := by kernel_rfl
theorem A85 : trR Tryz.prog Tryz.f36.results.toList = some A3V := by kernel_rfl
def A19 := AE7 AZa.eq_1
def A2U := AE7 AYF.eq_1
def A2q := AE7 AYO.eq_1
def A2i := AE7 AZk.eq_1
def A20 := AE7 AYI.eq_1
def A2M := AE7 AZg.eq_1
def A5W := AE7 A39.eq_1
theorem A6o {K : TV → Prop} {e : Env} {H : List Ob} : res A3V e H K = res [.tmp 2] e H K := AE9 rfl
def A0M := (And.intro (And.intro (And.intro @A19 @A2U) (And.intro @A2q @A2i)) (And.intro (And.intro @A20 @A2M) (And.intro @A5W @A6o)))
def A60 := AGG 24 Tryz.func36 A87 A85 rfl

def A1i : AFb := .seq (.ops [po_ 2 (.mov (.c (.int .u8 ((0 : Nat) : Int))))] [0])
 (.seq (.seq (.ops [mv_ 3 0,
  po_ 4 (.bin 5 .lss (.t 3) (.c (.int .u8 ((10 : Nat) : Int))))] [0, 4])
 (.cond (.t 4)
 (.seq (.ops [mv_ 5 0,
   po_ 6 (.bin 5 .add (.c (.int .u8 ((48 : Nat) : Int))) (.t 5)),
   mv_ 2 6] [2])
  (.ret))
 (.skip)))
 (.seq (.ops [mv_ 7 0,
  po_ 8 (.bin 5 .add (.c (.int .u8 ((97 : Nat) : Int))) (.t 7)),
  po_ 9 (.bin 5 .sub (.t 8) (.c (.int .u8 ((10 : Nat) : Int)))),
  mv_ 2 9] [2])
 (.ret)))
def A1c : List VR := [.tmp 2]
theorem A58 : Tryz.f70.body.bind (trC Tryz.prog Tryz.f70.ntmps) = some (er A1i) := by kernel_rfl
theorem A5V : trR Tryz.prog Tryz.f70.results.toList = some A1c := by kernel_rfl
def A3C := AE7 A1i.eq_1
theorem A3c {K : TV → Prop} {e : Env} {H : List Ob} : res A1c e H K = res [.tmp 2] e H K := AE9 rfl
def AU5 := (And.intro @A3C @A3c)
def A5m := AGG 10 Tryz.func70 A58 A5V rfl

def AQ7 : AFb := .seq (.seq (.ops [mv_ 27 6,
  po_ 28 (.bin 3 .lss (.t 27) (ci_ 0)),
  mv_ 29 28,
  ⟨some 30, .p (.mov (.t 7)), some ⟨29, false⟩⟩,
  ⟨some 31, .p (.bin 3 .lss (.t 30) (ci_ 0)), some ⟨29, false⟩⟩,
  po_ 32 (.pick (.t 29) (.c (.bool true)) (.t 31))] [0, 2, 4, 5, 6, 7, 13, 32])
 (.cond (.t 32)
 (.seq (.ops [po_ 33 (.buildA 20 1 [.val (.int .u8 ((0 : Nat) : Int)), .val (.int .u8 ((0 : Nat) : Int)), .val (.int .u8 ((0 : Nat) : Int)), .val (.int .u8 ((0 : Nat) : Int)), .val (.int .u8 ((0 : Nat) : Int)), .val (.int .u8 ((0 : Nat) : Int)), .val (.int .u8 ((0 : Nat) : Int)), .val (.int .u8 ((0 : Nat) : Int)), .val (.int .u8 ((0 : Nat) : Int)), .val (.int .u8 ((0 : Nat) : Int)), .val (.int .u8 ((0 : Nat) : Int)), .val (.int .u8 ((0 : Nat) : Int)), .val (.int .u8 ((0 : Nat) : Int)), .val (.int .u8 ((0 : Nat) : Int)), .val (.int .u8 ((0 : Nat) : Int)), .val (.int .u8 ((0 : Nat) : Int)), .val (.int .u8 ((0 : Nat) : Int)), .val (.int .u8 ((0 : Nat) : Int)), .val (.int .u8 ((0 : Nat) : Int)), .val (.int .u8 ((0 : Nat) : Int))] []),
   po_ 34 (.iface 34 (ci_ 12)),
   ⟨none, .s (.store 20 (.t 2) (.t 33)), none⟩,
   mv_ 3 34] [2, 3])
  (.ret))
 (.skip)))
 (.ops [mv_ 35 5,
  mv_ 36 6,
  po_ 37 (.bin 3 .shl (.t 36) (.c (.int .u64 ((4 : Nat) : Int)))),
  mv_ 38 7,
  po_ 39 (.bin 3 .or (.t 37) (.t 38)),
  po_ 40 (.conv .u8 (.t 39)),
  po_ 41 (.idxAA 20 1 (.t 4) (.t 35)),
  ⟨none, .s (.store 1 (.t 41) (.t 40)), none⟩] [0, 2, 4, 13])
def ARq : AFb := .seq (.draw 10 [mv_ 16 0,
  mv_ 17 5,
  po_ 18 (.bin 3 .mul (ci_ 2) (.t 17)),
  po_ 19 (.idxS (.t 16) (.t 18)),
  so_ 20 (.call 136 [.c (.string (str [48, 49, 50, 51, 52, 53, 54, 55, 56, 57, 97, 98, 99, 100, 101, 102])), .t 19]),
  mv_ 21 0,
  mv_ 22 5,
  po_ 23 (.bin 3 .mul (ci_ 2) (.t 22)),
  po_ 24 (.bin 3 .add (.t 23) (ci_ 1)),
  po_ 25 (.idxS (.t 21) (.t 24)),
  so_ 26 (.call 136 [.c (.string (str [48, 49, 50, 51, 52, 53, 54, 55, 56, 57, 97, 98, 99, 100, 101, 102])), .t 25]),
  mv_ 6 20,
  mv_ 7 26] [0, 2, 4, 5, 6, 7, 13])
 AQ7
def ARO : AFb := .seq (.block 1 (.seq (.ops [mv_ 15 13,
  mv_ 5 15] [0, 2, 4, 5, 13])
 ARq))
 (.ops [po_ 42 (.bin 3 .add (.t 13) (ci_ 1)),
  mv_ 13 42] [0, 2, 4, 13])
def AQU : AFb := .seq (.cond (.t 14)
 (.skip)
 (.exit 0))
 ARO
def AQT : AFb := .seq (.ops [po_ 14 (.bin 3 .lss (.t 13) (ci_ 20))] [0, 2, 4, 13, 14])
 AQU
def ASr : AFb := .block 0 (.loop [0, 2, 4, 13] AQT)
def ASj : AFb := .seq (.ops [po_ 43 (.load true 20 (.t 4)),
  ⟨none, .s (.store 20 (.t 2) (.t 43)), none⟩,
  po_ 3 (.mov (.c .nilIface))] [2, 3])
 (.ret)
def AQZ : AFb := .seq (.seq (.ops [po_ 13 (.mov (ci_ 0))] [0, 2, 4, 13])
 ASr)
 ASj
def ARo : AFb := .seq (.seq (.ops [mv_ 8 0,
  po_ 9 (.lenS (.t 8)),
  po_ 10 (.bin 3 .neq (.t 9) (ci_ 40))] [0, 2, 4, 10])
 (.cond (.t 10)
 (.seq (.ops [po_ 11 (.load true 20 (.t 4)),
   po_ 12 (.iface 34 (ci_ 12)),
   ⟨none, .s (.store 20 (.t 2) (.t 11)), none⟩,
   mv_ 3 12] [2, 3])
  (.ret))
 (.skip)))
 AQZ
def API : AFb := .seq (.ops [so_ 4 (.alloc (.arr 20 1 [.val (.int .u8 ((0 : Nat) : Int)), .val (.int .u8 ((0 : Nat) : Int)), .val (.int .u8 ((0 : Nat) : Int)), .val (.int .u8 ((0 : Nat) : Int)), .val (.int .u8 ((0 : Nat) : Int)), .val (.int .u8 ((0 : Nat) : Int)), .val (.int .u8 ((0 : Nat) : Int)), .val (.int .u8 ((0 : Nat) : Int)), .val (.int .u8 ((0 : Nat) : Int)), .val (.int .u8 ((0 : Nat) : Int)), .val (.int .u8 ((0 : Nat) : Int)), .val (.int .u8 ((0 : Nat) : Int)), .val (.int .u8 ((0 : Nat) : Int)), .val (.int .u8 ((0 : Nat) : Int)), .val (.int .u8 ((0 : Nat) : Int)), .val (.int .u8 ((0 : Nat) : Int)), .val (.int .u8 ((0 : Nat) : Int)), .val (.int .u8 ((0 : Nat) : Int)), .val (.int .u8 ((0 : Nat) : Int)), .val (.int .u8 ((0 : Nat) : Int))]))] [0, 2, 4])
 ARo
def AWZ : AFb := .seq (.ops [so_ 2 (.alloc (.arr 20 1 [.val (.int .u8 ((0 : Nat) : Int)), .val (.int .u8 ((0 : Nat) : Int)), .val (.int .u8 ((0 : Nat) : Int)), .val (.int .u8 ((0 : Nat) : Int)), .val (.int .u8 ((0 : Nat) : Int)), .val (.int .u8 ((0 : Nat) : Int)), .val (.int .u8 ((0 : Nat) : Int)), .val (.int .u8 ((0 : Nat) : Int)), .val (.int .u8 ((0 : Nat) : Int)), .val (.int .u8 ((0 : Nat) : Int)), .val (.int .u8 ((0 : Nat) : Int)), .val (.int .u8 ((0 : Nat) : Int)), .val (.int .u8 ((0 : Nat) : Int)), .val (.int .u8 ((0 : Nat) : Int)), .val (.int .u8 ((0 : Nat) : Int)), .val (.int .u8 ((0 : Nat) : Int)), .val (.int .u8 ((0 : Nat) : Int)), .val (.int .u8 ((0 : Nat) : Int)), .val (.int .u8 ((0 : Nat) : Int)), .val (.int .u8 ((0 : Nat) : Int))])),
  po_ 3 (.mov (.c .nilIface))] [0, 2])
 API
def AWW : List VR := [.cell 2 true 20, .tmp 3]
theorem A3z : Tryz.f105.body.bind (trC Tryz.prog Tryz.f105.ntmps) = some (er AWZ) := by kernel_rfl
theorem A3v : trR Tryz.prog Tryz.f105.results.toList = some AWW := by kernel_rfl
def AYv := AE7 AQ7.eq_1
def AXm := AE7 ARq.eq_1
def AW8 := AE7 ARO.eq_1
def AX9 := AE7 AQU.eq_1
def AXT := AE7 AQT.eq_1
def AYl := AE7 ASr.eq_1
def AXt := AE7 ASj.eq_1
def AXu := AE7 AQZ.eq_1
def AXV := AE7 ARo.eq_1
def AV6 := AE7 API.eq_1
def A1J := AE7 AWZ.eq_1
theorem A1u {K : TV → Prop} {e : Env} {H : List Ob} : res AWW e H K = res [.cell 2 true 20, .tmp 3] e H K := AE9 rfl
def AIS := (And.intro (And.intro (And.intro (And.intro @AYv @AXm) (And.intro @AW8 @AX9)) (And.intro (And.intro @AXT @AYl) (And.intro @AXt @AXu))) (And.intro (And.intro @AXV @AV6) (And.intro @A1J @A1u)))
def A2p := AGG 44 Tryz.func105 A3z A3v rfl

def AUM : AFb := .seq (.ops [mv_ 30 6,
  po_ 31 (.bin 5 .geq (.t 30) (.c (.int .u8 ((97 : Nat) : Int)))),
  mv_ 32 31,
  ⟨some 33, .p (.mov (.t 6)), some ⟨32, true⟩⟩,
  ⟨some 34, .p (.bin 5 .leq (.t 33) (.c (.int .u8 ((102 : Nat) : Int)))), some ⟨32, true⟩⟩,
  po_ 35 (.pick (.t 32) (.t 34) (.c (.bool false))),
  mv_ 29 35] [0, 2, 4, 5, 6, 29])
 (.cond (.t 29)
 (.ops [mv_ 36 6,
   po_ 37 (.bin 5 .sub (.t 36) (.c (.int .u8 ((97 : Nat) : Int)))),
   po_ 38 (.bin 5 .add (.t 37) (.c (.int .u8 ((10 : Nat) : Int)))),
   mv_ 7 38] [0, 2, 4, 5, 7])
 (.seq (.ops [po_ 19 (.buildA 20 1 [.val (.int .u8 ((0 : Nat) : Int)), .val (.int .u8 ((0 : Nat) : Int)), .val (.int .u8 ((0 : Nat) : Int)), .val (.int .u8 ((0 : Nat) : Int)), .val (.int .u8 ((0 : Nat) : Int)), .val (.int .u8 ((0 : Nat) : Int)), .val (.int .u8 ((0 : Nat) : Int)), .val (.int .u8 ((0 : Nat) : Int)), .val (.int .u8 ((0 : Nat) : Int)), .val (.int .u8 ((0 : Nat) : Int)), .val (.int .u8 ((0 : Nat) : Int)), .val (.int .u8 ((0 : Nat) : Int)), .val (.int .u8 ((0 : Nat) : Int)), .val (.int .u8 ((0 : Nat) : Int)), .val (.int .u8 ((0 : Nat) : Int)), .val (.int .u8 ((0 : Nat) : Int)), .val (.int .u8 ((0 : Nat) : Int)), .val (.int .u8 ((0 : Nat) : Int)), .val (.int .u8 ((0 : Nat) : Int)), .val (.int .u8 ((0 : Nat) : Int))] []),
   ⟨none, .s (.store 20 (.t 2) (.t 19)), none⟩,
   po_ 3 (.mov (.c (.bool false)))] [2, 3])
  (.ret)))
def AUB : AFb := .cond (.t 20)
 (.ops [mv_ 27 6,
   po_ 28 (.bin 5 .sub (.t 27) (.c (.int .u8 ((48 : Nat) : Int)))),
   mv_ 7 28] [0, 2, 4, 5, 7])
 AUM
def AUW : AFb := .seq (.block 2 (.seq (.ops [mv_ 21 6,
  po_ 22 (.bin 5 .geq (.t 21) (.c (.int .u8 ((48 : Nat) : Int)))),
  mv_ 23 22,
  ⟨some 24, .p (.mov (.t 6)), some ⟨23, true⟩⟩,
  ⟨some 25, .p (.bin 5 .leq (.t 24) (.c (.int .u8 ((57 : Nat) : Int)))), some ⟨23, true⟩⟩,
  po_ 26 (.pick (.t 23) (.t 25) (.c (.bool false))),
  mv_ 20 26] [0, 2, 4, 5, 6, 20])
 AUB))
 (.ops [mv_ 39 5,
  po_ 40 (.bin 3 .quo (.t 39) (ci_ 2)),
  mv_ 41 5,
  po_ 42 (.bin 3 .quo (.t 41) (ci_ 2)),
  po_ 43 (.idxAA 20 1 (.t 4) (.t 42)),
  po_ 44 (.load false 1 (.t 43)),
  po_ 45 (.bin 5 .mul (.t 44) (.c (.int .u8 ((16 : Nat) : Int)))),
  mv_ 46 7,
  po_ 47 (.bin 5 .add (.t 45) (.t 46)),
  po_ 48 (.idxAA 20 1 (.t 4) (.t 40)),
  ⟨none, .s (.store 1 (.t 48) (.t 47)), none⟩] [0, 2, 4, 5])
def AU9 : AFb := .seq (.ops [po_ 7 (.mov (.c (.int .u8 ((0 : Nat) : Int))))] [0, 2, 4, 5, 6])
 AUW
def AUA : AFb := .seq (.block 1 (.seq (.ops [mv_ 16 0,
  mv_ 17 5,
  po_ 18 (.idxS (.t 16) (.t 17)),
  mv_ 6 18] [0, 2, 4, 5, 6])
 AU9))
 (.ops [mv_ 14 5,
  po_ 15 (.bin 3 .add (.t 14) (ci_ 1)),
  mv_ 5 15] [0, 2, 4, 5])
def AVl : AFb := .seq (.seq (.ops [mv_ 12 5,
  po_ 13 (.bin 3 .lss (.t 12) (ci_ 40))] [0, 2, 4, 5, 13])
 (.cond (.t 13)
 (.skip)
 (.exit 0)))
 AUA
def AUw : AFb := .block 0 (.loop [0, 2, 4, 5] AVl)
def AUn : AFb := .seq (.ops [po_ 49 (.load true 20 (.t 4)),
  ⟨none, .s (.store 20 (.t 2) (.t 49)), none⟩,
  po_ 3 (.mov (.c (.bool true)))] [2, 3])
 (.ret)
def AUo : AFb := .seq (.seq (.ops [po_ 5 (.mov (ci_ 0))] [0, 2, 4, 5])
 AUw)
 AUn
def ATN : AFb := .seq (.seq (.ops [mv_ 8 0,
  po_ 9 (.lenS (.t 8)),
  po_ 10 (.bin 3 .neq (.t 9) (ci_ 40))] [0, 2, 4, 10])
 (.cond (.t 10)
 (.seq (.ops [po_ 11 (.load true 20 (.t 4)),
   ⟨none, .s (.store 20 (.t 2) (.t 11)), none⟩,
   po_ 3 (.mov (.c (.bool false)))] [2, 3])
  (.ret))
 (.skip)))
 AUo
def ATv : AFb := .seq (.ops [so_ 4 (.alloc (.arr 20 1 [.val (.int .u8 ((0 : Nat) : Int)), .val (.int .u8 ((0 : Nat) : Int)), .val (.int .u8 ((0 : Nat) : Int)), .val (.int .u8 ((0 : Nat) : Int)), .val (.int .u8 ((0 : Nat) : Int)), .val (.int .u8 ((0 : Nat) : Int)), .val (.int .u8 ((0 : Nat) : Int)), .val (.int .u8 ((0 : Nat) : Int)), .val (.int .u8 ((0 : Nat) : Int)), .val (.int .u8 ((0 : Nat) : Int)), .val (.int .u8 ((0 : Nat) : Int)), .val (.int .u8 ((0 : Nat) : Int)), .val (.int .u8 ((0 : Nat) : Int)), .val (.int .u8 ((0 : Nat) : Int)), .val (.int .u8 ((0 : Nat) : Int)), .val (.int .u8 ((0 : Nat) : Int)), .val (.int .u8 ((0 : Nat) : Int)), .val (.int .u8 ((0 : Nat) : Int)), .val (.int .u8 ((0 : Nat) : Int)), .val (.int .u8 ((0 : Nat) : Int))]))] [0, 2, 4])
 ATN
def A0Y : AFb := .seq (.ops [so_ 2 (.alloc (.arr 20 1 [.val (.int .u8 ((0 : Nat) : Int)), .val (.int .u8 ((0 : Nat) : Int)), .val (.int .u8 ((0 : Nat) : Int)), .val (.int .u8 ((0 : Nat) : Int)), .val (.int .u8 ((0 : Nat) : Int)), .val (.int .u8 ((0 : Nat) : Int)), .val (.int .u8 ((0 : Nat) : Int)), .val (.int .u8 ((0 : Nat) : Int)), .val (.int .u8 ((0 : Nat) : Int)), .val (.int .u8 ((0 : Nat) : Int)), .val (.int .u8 ((0 : Nat) : Int)), .val (.int .u8 ((0 : Nat) : Int)), .val (.int .u8 ((0 : Nat) : Int)), .val (.int .u8 ((0 : Nat) : Int)), .val (.int .u8 ((0 : Nat) : Int)), .val (.int .u8 ((0 : Nat) : Int)), .val (.int .u8 ((0 : Nat) : Int)), .val (.int .u8 ((0 : Nat) : Int)), .val (.int .u8 ((0 : Nat) : Int)), .val (.int .u8 ((0 : Nat) : Int))])),
  po_ 3 (.mov (.c (.bool false)))] [0, 2])
 ATv
def A0V : List VR := [.cell 2 true 20, .tmp 3]
theorem A5t : Tryz.f77.body.bind (trC Tryz.prog Tryz.f77.ntmps) = some (er A0Y) := by kernel_rfl
theorem A6i : trR Tryz.prog Tryz.f77.results.toList = some A0V := by kernel_rfl
def A0I := AE7 AUM.eq_1
def A0n := AE7 AUB.eq_1
def A0k := AE7 AUW.eq_1
def AZT := AE7 AU9.eq_1
def A0b := AE7 AUA.eq_1
def AZ8 := AE7 AVl.eq_1
def A0w := AE7 AUw.eq_1
def AZ0 := AE7 AUn.eq_1
def A0K := AE7 AUo.eq_1
def AZG := AE7 ATN.eq_1
def AYZ := AE7 ATv.eq_1
def A3r := AE7 A0Y.eq_1
theorem A3B {K : TV → Prop} {e : Env} {H : List Ob} : res A0V e H K = res [.cell 2 true 20, .tmp 3] e H K := AE9 rfl
def AID := (And.intro (And.intro (And.intro (And.intro @A0I @A0n) (And.intro @A0k @AZT)) (And.intro (And.intro @A0b @AZ8) (And.intro @A0w @AZ0))) (And.intro (And.intro (And.intro @A0K @AZG) (And.intro @AYZ @A3r)) @A3B))
def A5n := AGG 50 Tryz.func77 A5t A6i rfl

def AOT : AFb := .seq (.ops [po_ 4 (.mov (ci_ 0))] [0, 1])
 (.seq (.ops [mv_ 5 0,
  mv_ 6 1,
  so_ 7 (.call 165 [.t 5, .t 6]),
  mv_ 4 7] [4])
 (.ret))
def AOX : List VR := [.tmp 4]
theorem AYt : Tryz.f136.body.bind (trC Tryz.prog Tryz.f136.ntmps) = some (er AOT) := by kernel_rfl
theorem AX1 : trR Tryz.prog Tryz.f136.results.toList = some AOX := by kernel_rfl
def AUJ := AE7 AOT.eq_1
theorem AUg {K : TV → Prop} {e : Env} {H : List Ob} : res AOX e H K = res [.tmp 4] e H K := AE9 rfl
def AOH := (And.intro @AUJ @AUg)
def AWt := AGG 8 Tryz.func136 AYt AX1 rfl

end Go.Proofs.YtliaddbbmnfioaaGreatDoor


namespace Go.Proofs.YtliaddbbmnfioaaGreatDoor
open Go.RowKit
variable [AFG]
set_option linter.unusedSectionVars false
set_option linter.unusedVariables false

theorem A1a : ∃ j, Tryz.prog.info? 118 = some j ∧ j.size ≠ 0 := by
 have h : ((Tryz.prog.info? 118).map fun j => decide (j.size ≠ 0)) = some true := by kernel_rfl
 obtain ⟨j, h1, h2⟩ := Option.map_eq_some_iff.1 h
 exact ⟨j, h1, by simpa using h2⟩
set_option maxHeartbeats 2000000 in
set_option maxRecDepth 100000 in
theorem A3n (b o : Nat) (w : World) (h0 : w.cell? ⟨b, o, none⟩ = some (.pointer (some ⟨b, o, none⟩))) :
  Calls Tryz.prog 101 #[.pointer (some ⟨b, o, none⟩)] w fun e w' => e = .returned (.tuple #[]) ∧ w' = w := by
 obtain ⟨j, hj, _⟩ := A1a
 go_enter Tryz.func101, Tryz.ntmps101
 go_wp2
 rw [Lib.run_neq_ptr_same w _ Tryz.underlying116 hj]
 go_wp2
 go_end0
 exact ⟨rfl, rfl⟩
set_option maxHeartbeats 2000000 in
set_option maxRecDepth 100000 in
theorem A2t (b o : Nat) (T : TypeId) (m : Nat) (w : World) (h0 : w.cell? ⟨b, o, none⟩ = some (.pointer none)) (hsh : w.shape? b = some (T, m)) (hom : o < m) (hlies : liesAt Tryz.prog Tryz.prog.depth T (m / Tryz.prog.cellsOf T) o 118 1 = true) (hfz : w.frozen? ⟨b, o, none⟩ = false) :
  Calls Tryz.prog 101 #[.pointer (some ⟨b, o, none⟩)] w fun e w' => e = .returned (.tuple #[]) ∧ w' = w.setCell ⟨b, o, none⟩ (.pointer (some ⟨b, o, none⟩)) := by
 obtain ⟨j, hj, hj0⟩ := A1a
 go_enter Tryz.func101, Tryz.ntmps101
 go_wp2
 rw [Lib.run_to_unsafe w ⟨b, o, none⟩ Tryz.underlying116 Tryz.underlying124 hj hj0 hsh hom]
 simp only [Result.andThen]
 rw [Oper.upon_value]
 go_wp2
 rw [run_callFunc_extern Tryz.func135 (by kernel_rfl) (by kernel_rfl) (by kernel_rfl) (e := Extern.AbiNoEscape.same) (by kernel_rfl)]
 rw [Lib.run_noEscape]
 simp only [Result.andThen]
 rw [Oper.upon_value]
 go_wp2
 rw [Lib.run_from_unsafe w ⟨b, o, none⟩ Tryz.underlying124 Tryz.underlying116 hj hsh hlies]
 simp only [Result.andThen]
 rw [Oper.upon_value]
 go_wp2
 go_end0
 exact ⟨rfl, rfl⟩
end Go.Proofs.YtliaddbbmnfioaaGreatDoor


namespace Go.Proofs.YtliaddbbmnfioaaGreatDoor
open Go.RowKit
variable [AFG]
set_option linter.unusedSectionVars false
set_option linter.unusedVariables false

theorem A8W {c : Ctx} {w : World} : Rep c w (.tup []) (.tuple #[]) := .inr ⟨[], [], rfl, rfl, by rw [AF9]⟩
theorem BgE {c : Ctx} {w : World} {id ver : Nat} {p : List (Nat × Nat)} {vs : List Value} (h : AF9 c w [.op id ver p] vs) : c.has id ver ∧ ∃ b o, c.β id ver = some (b, o) ∧ vs = [.pointer (some ⟨b, o + AGT p, none⟩)] := by
 obtain ⟨u, us, rfl, h1, h2⟩ := AF9.cons.1 h
 rw [AF9.nil] at h2; subst h2
 obtain ⟨g1, b, o, g2, g3⟩ := Rep.op (Or.inl h1 : Rep c w (.op id ver p) u)
 exact ⟨g1, b, o, g2, by rw [g3]⟩
/-- The builder's fields lie there. -/
theorem A6c {β : Nat → Nat → Option (Nat × Nat)} {H : List Ob} {F : Nat → Prop} {w : World} (hs : Sim ⟨β, H, F⟩ w) {id ver b o : Nat} {p : List (Nat × Nat)} {x u v : TV} (ho : H[id]? = some (.obj ver x)) (hb : β id ver = some (b, o)) (hg : AJ9 p x = some (.agg [u, v])) (hu : AFo u = 1) (hv : AFo v = 1) :
  ∃ u' v', AFh ⟨β, H, F⟩ w u [u'] ∧ AFh ⟨β, H, F⟩ w v [v'] ∧ w.cell? ⟨b, o + AGT p, none⟩ = some u' ∧ w.cell? ⟨b, o + AGT p + 1, none⟩ = some v' := by
 obtain ⟨us, h1, h2⟩ := A4J hs ho hb hg
 rw [AFh, AFj] at h1
 obtain ⟨a, r, rfl, h3, h4⟩ := h1
 rw [AFj] at h4
 obtain ⟨a2, r2, rfl, h5, h6⟩ := h4
 rw [AFj] at h6; subst h6
 have l1 := h3.length; rw [hu] at l1
 have l2 := h5.length; rw [hv] at l2
 obtain ⟨u', rfl⟩ := List.length_eq_one_iff.1 l1
 obtain ⟨v', rfl⟩ := List.length_eq_one_iff.1 l2
 exact ⟨u', v', h3, h5, by simpa using h2 0 u' rfl, h2 1 v' rfl⟩
/-- The builder's first field is written. -/
def AXH (id ver : Nat) (p : List (Nat × Nat)) (a : TV) : Prop := a = .val (.pointer none) ∨ a = .op id ver p
/-- A builder within a block of this type. -/
def A4q (T : TypeId) (m o : Nat) : Prop := o < m ∧ liesAt Tryz.prog Tryz.prog.depth T (m / Tryz.prog.cellsOf T) o 118 1 = true

set_option maxRecDepth 100000 in
theorem A3I {id ver q m : Nat} {T : TypeId} {p : List (Nat × Nat)} {x x' a v : TV} {H : List Ob} {K : TV → List Ob → Prop} (ho : H[id]? = some (.obj ver x)) (hg : AJ9 p x = some (.agg [a, v])) (hv1 : AFo v = 1) (ha : AXH id ver p a)
  (hq : H[q]? = some (.fact id ver T m)) (hT : A4q T m (AGT p)) (hp1 : ANf p x (.agg [.op id ver p, v]) = some x') (hlv : lays v = true) (hk : K (.tup []) (H.set id (.obj ver x'))) :
  AFk Tryz.prog 101 [.op id ver p] H K := by
 intro β F w vs hs hv
 obtain ⟨g1, b, o, hb, rfl⟩ := BgE hv
 have hb' : β id ver = some (b, o) := hb
 obtain ⟨_, hfact⟩ := hs.ob q _ hq
 obtain ⟨rfl, hsh⟩ := hfact b o hb
 obtain ⟨hom, hlies⟩ := hT
 have ha1 : AFo a = 1 := by rcases ha with rfl | rfl <;> rfl
 obtain ⟨u', v', r1, r2, c0, c1⟩ := A6c hs ho hb hg ha1 hv1
 simp only [Nat.zero_add] at c0 c1
 have hrow : AFh ⟨β, H, F⟩ w (.agg [.op id ver p, v]) [.pointer (some ⟨b, AGT p, none⟩), v'] := by
  rw [AFh, AFj]
  refine ⟨[_], [v'], rfl, ?_, ?_⟩
  ·rw [AFh]; exact ⟨g1, b, 0, hb, by simp⟩
  ·rw [AFj]; exact ⟨[v'], [], rfl, r2, by rw [AFj]⟩
 obtain ⟨k1, k2, ht⟩ := hs.store ho hb hp1 hrow
 simp only [Nat.zero_add] at k1 k2 ht
 -- what A4q there behind
 have hsets : w.setCells b (AGT p) [.pointer (some ⟨b, AGT p, none⟩), v'] = w.setCell ⟨b, AGT p, none⟩ (.pointer (some ⟨b, AGT p, none⟩)) := by
  have h1 := AKl b [.pointer (some ⟨b, AGT p, none⟩)] [v'] (AGT p) w
  refine h1.trans ?_
  have hc : AGU w b (AGT p + 1) [v'] := fun j u hj => by
   cases j with
   | zero => simp at hj; subst hj; exact c1
   | succ j => simp at hj
  exact AOa (ATA hc (Nat.le_refl _))
 rw [hsets] at k1 k2
 rcases ha with rfl | rfl
 ·rw [AFh] at r1
  have hu : u' = .pointer none := by simpa using r1.1
  subst hu
  have hfz : w.frozen? ⟨b, AGT p, none⟩ = false := (ht 0 (by simp)).2
  have hc := A2t b (AGT p) T m w c0 hsh hom hlies hfz
  have ea : ([Value.pointer (some ⟨b, 0 + AGT p, none⟩)]).toArray = #[.pointer (some ⟨b, AGT p, none⟩)] := by rw [Nat.zero_add]
  rw [ea]
  refine hc.mono ?_
  rintro e w' ⟨rfl, rfl⟩
  exact ⟨_, _, β, _, F, rfl, hk, k1, k2, A8W⟩
 ·rw [AFh] at r1
  obtain ⟨_, b', o', hb2, hu⟩ := r1
  have hb2' : β id ver = some (b', o') := hb2
  rw [hb'] at hb2'; cases hb2'
  have hu : u' = .pointer (some ⟨b, AGT p, none⟩) := by simpa using hu
  subst hu
  have hc := A3n b (AGT p) w c0
  have ea : ([Value.pointer (some ⟨b, 0 + AGT p, none⟩)]).toArray = #[.pointer (some ⟨b, AGT p, none⟩)] := by rw [Nat.zero_add]
  rw [ea]
  refine hc.mono ?_
  rintro e w' ⟨rfl, rfl⟩
  rw [A0X c0] at k1 k2
  exact ⟨_, _, β, _, F, rfl, hk, k1, k2, A8W⟩
end Go.Proofs.YtliaddbbmnfioaaGreatDoor


namespace Go.Proofs.YtliaddbbmnfioaaGreatDoor
open Go.RowKit
variable [AFG]
set_option linter.unusedSectionVars false
set_option linter.unusedVariables false

set_option maxHeartbeats 4000000 in
set_option maxRecDepth 100000 in
theorem A14 {b o : Nat} {w W : World} {v : Value} {n : Nat} {ad q : Option Addr} {cap : Nat} {s : ByteArray} {w1 w2 : World} (hv : v = .slice ad n cap) (c1 : w.cell? ⟨b, o + 1, none⟩ = some v)
  (hSD : (Builtin.unsafeSliceData_ #[29] 173 #[v]).run Tryz.prog w.drew = .ok (.pointer q) w1) (c2 : w1.cell? ⟨b, o + 1, none⟩ = some v)
  (hUS : (Builtin.unsafeString_ #[173, 3] 9 #[.pointer q, .int .i64 n]).run Tryz.prog w1 = .ok (.string s) w2) :
  Calls Tryz.prog 62 #[.pointer (some ⟨b, o, none⟩)] w fun e w' => e = .returned (.string s) ∧ w' = w2 := by
 subst hv
 have c1' : w.drew.cell? ⟨b, o + 1, none⟩ = some (.slice ad n cap) := c1
 have mixed : Tryz.prog.follows .mixedOrders = true := by kernel_rfl
 go_enter Tryz.func62, Tryz.ntmps62
 go_wp2
 go_region_o
 all_goals (go_wp2; go_ret; exact ⟨rfl, rfl⟩)

/-- A row of bytes that is given away to a string. -/
theorem Sim.die {β : Nat → Nat → Option (Nat × Nat)} {H : List Ob} {F : Nat → Prop} {w w' : World} (hs : Sim ⟨β, H, F⟩ w) {j : Nat} {o : Ob} (ho : H[j]? = some o) (hl : o.live = true)
  (h1 : w'.os = w.os) (h2 : w'.tape = w.tape) (h3 : w'.output = w.output) (hz : w.heap.size ≤ w'.heap.size) (hsh : ∀ b, b < w.heap.size → w'.shape? b = w.shape? b)
  (hb : ∀ b, b < w.heap.size → (∀ off, β j o.ver ≠ some (b, off)) → w'.heap[b]? = w.heap[b]?) : Sim ⟨β, H.set j (.gone o.ver), F⟩ w' ∧ AFC ⟨β, H, F⟩ w ⟨β, H.set j (.gone o.ver), F⟩ w' :=
 hs.turnG ho hl (Nat.le_refl _) (fun _ _ _ => rfl) (fun b off e => .inl ⟨off, e⟩) h1 h2 h3 hz hsh hb fun _ => trivial

theorem A6Q (w : World) (a : Addr) (n b : Nat) : (w.freeze a n).shape? b = w.shape? b := by
 unfold World.freeze
 split
 ·rfl
 ·simp only [World.shape?, Array.getElem?_modify]
  by_cases hb : a.block = b
  ·rw [if_pos hb]
   cases hh : w.heap[b]? with
   | none => simp
   | some x => cases x <;> simp
  ·rw [if_neg hb]
theorem A7r (w : World) (a : Addr) (n b : Nat) (h : b ≠ a.block) : (w.freeze a n).heap[b]? = w.heap[b]? := by
 unfold World.freeze
 split
 ·rfl
 ·simp only [Array.getElem?_modify]
  rw [if_neg (fun e => h e.symm)]
theorem A7v (w : World) (a : Addr) (n : Nat) : (w.freeze a n).heap.size = w.heap.size := by
 unfold World.freeze
 split <;> simp
theorem Bbf (w : World) (a : Addr) (n : Nat) : (w.freeze a n).os = w.os ∧ (w.freeze a n).tape = w.tape ∧ (w.freeze a n).output = w.output := by
 unfold World.freeze
 split <;> exact ⟨rfl, rfl, rfl⟩

set_option maxRecDepth 100000 in
theorem BbA : Tryz.prog.cellsOf 5 = 1 := by kernel_rfl

set_option maxRecDepth 100000 in
/-- The string of a builder that has been used. -/
theorem Bhs {id ver j v cp : Nat} {p : List (Nat × Nat)} {x a : TV} {l : List UInt8} {H : List Ob} {K : TV → List Ob → Prop} (ho : H[id]? = some (.obj ver x)) (hg : AJ9 p x = some (.agg [a, .os 1 j v [] 0 l.length cp])) (ha : AFo a = 1)
  (hj : H[j]? = some (.bld v 5 l)) (h63 : l.length ≤ 9223372036854775807) (hk : K (.val (.string (str l))) (H.set j (.gone v))) : AFk Tryz.prog 62 [.op id ver p] H K := by
 intro β F w vs hs hv
 obtain ⟨g1, b, o, hb, rfl⟩ := BgE hv
 obtain ⟨u', v', r1, r2, c0, c1⟩ := A6c hs ho hb hg ha rfl
 have hjl : j < H.length := (List.getElem?_eq_some_iff.1 hj).1
 rw [AFh] at r2
 obtain ⟨g2, r2⟩ := r2
 have ea : ([Value.pointer (some ⟨b, o + AGT p, none⟩)]).toArray = #[.pointer (some ⟨b, o + AGT p, none⟩)] := rfl
 rw [ea]
 -- what is empty
 have emp : ∀ {ad q : Option Addr} {cap : Nat} {w1 : World}, v' = .slice ad 0 cap → l = [] → (Builtin.unsafeSliceData_ #[29] 173 #[v']).run Tryz.prog w.drew = .ok (.pointer q) w1 → w1.cell? ⟨b, o + AGT p + 1, none⟩ = some v' → Sim ⟨β, H, F⟩ w1 → AFC ⟨β, H, F⟩ w ⟨β, H, F⟩ w1 →
   Calls Tryz.prog 62 #[.pointer (some ⟨b, o + AGT p, none⟩)] w fun e w' => ∃ v x β' H' F', e = .returned v ∧ K x H' ∧ Sim ⟨β', H', F'⟩ w' ∧ AFC ⟨β, H, F⟩ w ⟨β', H', F'⟩ w' ∧ Rep ⟨β', H', F'⟩ w' x v := by
  intro ad q cap w1 hv' hl hSD c2 hs1 hl1
  have hUS := Lib.run_unsafeString_none (P := Tryz.prog) w1 173 3 9 q
  refine (A14 (W := w) (n := 0) hv' c1 hSD c2 hUS).mono ?_
  rintro e w' ⟨rfl, rfl⟩
  obtain ⟨k1, k2⟩ := hs1.die (w' := w') hj rfl rfl rfl rfl (Nat.le_refl _) (fun _ _ => rfl) (fun _ _ _ => rfl)
  subst hl
  exact ⟨_, _, β, _, F, rfl, hk, k1, hl1.trans k2, Rep.of_val⟩
 rcases r2 with ⟨hl0, ad, hv', _, han⟩ | ⟨b2, o2, cap, t, m, hb2, hv', hn, hcap, hsh, hroom, _⟩
 ·have hl : l = [] := List.length_eq_zero_iff.1 hl0
  have hv' : v' = .slice ad 0 0 := by simpa using hv'
  cases ad with
  | none =>
   refine emp hv' hl (q := none) (w1 := w.drew) ?_ c1 (hs.heap rfl) (AFC.heap rfl rfl rfl rfl)
   rw [hv']; exact Lib.run_unsafeSliceData_nil w.drew _ _ _ _
  | some ad =>
   obtain ⟨s, hs2⟩ := Option.isSome_iff_exists.1 (han ad rfl)
   obtain ⟨k1, k2⟩ := (hs.heap (w' := w.drew) rfl).extra (.view ad 5)
   refine emp hv' hl (q := some ⟨w.drew.heap.size, 0, none⟩) (w1 := w.drew.alloc (.view ad 5)) ?_ ?_ k1 ((AFC.heap (w := w) (w' := w.drew) rfl rfl rfl rfl).trans k2)
   ·rw [hv']; exact Lib.run_unsafeSliceData_zero w.drew _ _ _ Tryz.underlying173 ad 0 s hs2
   ·rw [World.cell?_of_block (w := w.drew) (AGC _ _ (World.block_lt_of_cell? w _ c1))]; exact c1
 ·have hv' : v' = .slice (some ⟨b2, o2, none⟩) l.length cap := by simpa [AGT] using hv'
  rcases hs.ob j _ hj with ⟨q1, _⟩ | ⟨b3, post, fr, q1, q2, q3⟩
  ·have q1' : β j v = none := q1
   have hb2' : β j v = some (b2, o2) := hb2
   rw [q1'] at hb2'; cases hb2'
  have q1' : β j v = some (b3, 0) := q1
  have hb2' : β j v = some (b2, o2) := hb2
  rw [q1'] at hb2'; cases hb2'
  by_cases hl : l = []
  ·subst hl
   by_cases hc0 : cap = 0
   ·subst hc0
    obtain ⟨k1, k2⟩ := (hs.heap (w' := w.drew) rfl).extra (.view ⟨b2, 0, none⟩ 5)
    refine emp hv' rfl (q := some ⟨w.drew.heap.size, 0, none⟩) (w1 := w.drew.alloc (.view ⟨b2, 0, none⟩ 5)) ?_ ?_ k1 ((AFC.heap (w := w) (w' := w.drew) rfl rfl rfl rfl).trans k2)
    ·rw [hv']; exact Lib.run_unsafeSliceData_zero w.drew _ _ _ Tryz.underlying173 ⟨b2, 0, none⟩ 0 _ hsh
    ·rw [World.cell?_of_block (w := w.drew) (AGC _ _ (World.block_lt_of_cell? w _ c1))]; exact c1
   ·refine emp hv' rfl (q := some ⟨b2, 0, none⟩) (w1 := w.drew) ?_ c1 (hs.heap rfl) (AFC.heap rfl rfl rfl rfl)
    rw [hv']; exact Lib.run_unsafeSliceData_row w.drew _ _ _ _ _ hc0
  ·have hlp : 0 < l.length := List.length_pos_iff.2 hl
   have hSD : (Builtin.unsafeSliceData_ #[29] 173 #[v']).run Tryz.prog w.drew = .ok (.pointer (some ⟨b2, 0, none⟩)) w.drew := by
    rw [hv']; exact Lib.run_unsafeSliceData_row w.drew _ _ _ _ _ (by omega)
   have hsh' : w.drew.shape? b2 = some (5, ((l.map fun x : UInt8 => Value.int .u8 x.toNat) ++ post).length) := by
    have q2' : w.drew.heap[b2]? = _ := q2
    simp only [World.shape?, q2', List.size_toArray]
   have hcell : ∀ i y, l[i]? = some y → w.drew.cell? ((⟨b2, 0, none⟩ : Addr).add i) = some (.int .u8 y.toNat) := by
    intro i y hy
    rw [AHj, Nat.zero_add]
    have q2' : w.drew.heap[b2]? = _ := q2
    rw [cell_of_row w.drew b2 i _ _ _ q2']
    have hil : i < l.length := (List.getElem?_eq_some_iff.1 hy).1
    simp only [List.getElem?_toArray]
    rw [List.getElem?_append_left (by simpa using hil), List.getElem?_map, hy]; rfl
   have hUS := Lib.run_unsafeString_row (P := Tryz.prog) w.drew 173 3 9 5 Tryz.underlying173 BbA b2 _ hsh' l hl (by simp) h63 hcell
   refine (A14 (W := w) hv' c1 hSD c1 hUS).mono ?_
   rintro e w' ⟨rfl, rfl⟩
   obtain ⟨f1, f2, f3⟩ := Bbf w.drew ⟨b2, 0, none⟩ l.length
   obtain ⟨k1, k2⟩ := hs.die (w' := w.drew.freeze ⟨b2, 0, none⟩ l.length) hj rfl f1 f2 f3 (by rw [A7v]; exact Nat.le_refl _) (fun b _ => A6Q w.drew _ _ b) (fun b _ hne => A7r w.drew _ _ b fun e => hne 0 (by rw [e]; exact q1'))
   exact ⟨_, _, β, _, F, rfl, hk, k1, k2, Rep.of_val⟩
theorem Bcs : Bmq Tryz.prog 62 := fun id ver j v cp p x a l H K ho hg ha hj h63 hk => Bhs ho hg ha hj h63 hk
end Go.Proofs.YtliaddbbmnfioaaGreatDoor


namespace Go.Proofs.YtliaddbbmnfioaaGreatDoor
open Go.RowKit
variable [AFG]
set_option linter.unusedSectionVars false
set_option linter.unusedVariables false
set_option linter.unusedSimpArgs false

theorem A5p : ∀ {p q : List (Nat × Nat)} {x : TV}, AJ9 (p ++ q) x = (AJ9 p x).bind (AJ9 q)
 | [], q, x => by rw [ASM]; rfl
 | (i, d) :: p, q, x => by
  cases x with
  | agg cs =>
   rw [List.cons_append, AKo, AKo]
   split
   ·cases cs[i]? with
    | none => rfl
    | some c => exact A5p
   ·rfl
  | arr n k cs =>
   rw [List.cons_append, A4E, A4E]
   split
   ·cases cs[i]? with
    | none => rfl
    | some c => exact A5p
   ·rfl
  | _ => rfl
/-- A builder's row is changed. -/
theorem A4w {a a' b b' : TV} (ha : AFo a = 1) (ha' : AFo a' = 1) (hb : AFo b = 1) (hb' : AFo b' = 1) (hn : AIK a' = false) : ∀ {p : List (Nat × Nat)} {x x' : TV}, AJ9 p x = some (.agg [a, b]) → ANf p x (.agg [a', b]) = some x' →
  AJ9 (p ++ [(1, 1)]) x' = some b ∧ ∃ x'', ANf (p ++ [(1, 1)]) x' b' = some x'' ∧ ANf p x (.agg [a', b']) = some x''
 | [], x, x', hg, hs => by
  rw [ASM] at hg; cases hg
  have w1 : AFo (.agg [a', b]) = AFo (.agg [a, b]) := by simp [AFo, AFU, ha, ha', hb]
  have w2 : AFo (.agg [a', b']) = AFo (.agg [a, b]) := by simp [AFo, AFU, ha, ha', hb, hb']
  rw [AJi, if_pos w1] at hs; cases hs
  rw [AJi, if_pos w2, List.nil_append, AKo, AJR]
  have h1 : AFU ([a', b].take 1) = 1 := by simp [AFU, ha']
  rw [if_pos h1, if_pos h1]
  refine ⟨by simp [ASM], _, ?_, rfl⟩
  simp [AJi, hb, hb']
 | (i, d) :: p, x, x', hg, hs => by
  cases x with
  | agg cs =>
   rw [AKo] at hg
   rw [AJR] at hs
   split at hg
   ·rename_i hw
    rw [if_pos hw] at hs
    cases hc : cs[i]? with
    | none => rw [hc] at hg; cases hg
    | some c =>
     rw [hc] at hg hs
     have hg' : AJ9 p c = some (.agg [a, b]) := hg
     have hs' : ((ANf p c (.agg [a', b])).map fun c' => TV.agg (cs.set i c')) = some x' := hs
     obtain ⟨c', h1, rfl⟩ := Option.map_eq_some_iff.1 hs'
     obtain ⟨g1, c'', g2, g3⟩ := A4w ha ha' hb hb' hn hg' h1
     have hi : i < cs.length := (List.getElem?_eq_some_iff.1 hc).1
     have hti : (cs.set i c').take i = cs.take i := by rw [List.take_set_of_le (Nat.le_refl _)]
     refine ⟨?_, .agg (cs.set i c''), ?_, ?_⟩
     ·rw [List.cons_append, AKo, hti, if_pos hw, List.getElem?_set_self hi]; exact g1
     ·rw [List.cons_append, AJR, hti, if_pos hw, List.getElem?_set_self hi]
      show (ANf (p ++ [(1, 1)]) c' b').map _ = _
      rw [g2]; simp
     ·rw [AJR, if_pos hw, hc]
      show (ANf p c (.agg [a', b'])).map _ = _
      rw [g3]; rfl
   ·cases hg
  | arr n k cs =>
   rw [A8E] at hs
   split at hs
   ·rename_i h
    have := h.2
    simp [AIK, AHk, hn] at this
   ·cases hs
  | _ => cases hg

/-- A builder that has been written to, or not; its row. -/
structure Bld (H : List Ob) (id ver : Nat) (p : List (Nat × Nat)) (j v : Nat) (x : TV) (l : List UInt8) : Prop where
 ob : H[id]? = some (.obj ver x)
 fields : ∃ a, AXH id ver p a ∧ AJ9 p x = some (.agg [a, .os 1 j v [] 0 l.length l.length])
 row : H[j]? = some (.bld v 5 l)
 ne : id ≠ j
 fact : ∃ (q : Nat) (T : TypeId) (m : Nat), H[q]? = some (Ob.fact id ver T m) ∧ A4q T m (AGT p)
theorem AL4 {id ver : Nat} {p : List (Nat × Nat)} {a : TV} (h : AXH id ver p a) : AFo a = 1 := by rcases h with rfl | rfl <;> rfl

end Go.Proofs.YtliaddbbmnfioaaGreatDoor


namespace Go.Proofs.YtliaddbbmnfioaaGreatDoor
variable [AFG]
set_option linter.unusedSectionVars false
set_option linter.unusedVariables false
set_option linter.defProp false
set_option maxRecDepth 100000

def AH1 : AFb := .seq (.ops [mv_ 8 0,
  mv_ 9 0,
  po_ 10 (.nilc (.t 9)),
  po_ 11 (.fieldA 1 1 (.t 10)),
  po_ 12 (.load false 1 (.t 11)),
  mv_ 13 1,
  so_ 14 (.appS 5 (.t 12) (.t 13)),
  po_ 15 (.nilc (.t 8)),
  po_ 16 (.fieldA 1 1 (.t 15)),
  ⟨none, .s (.store 1 (.t 16) (.t 14)), none⟩] [1])
 (.seq (.ops [mv_ 17 1,
  po_ 18 (.lenS (.t 17)),
  mv_ 4 18,
  po_ 5 (.mov (.c .nilIface))] [4, 5])
 (.ret))
def AHZ : AFb := .seq (.ops [mv_ 6 0,
  so_ 7 (.call 101 [.t 6])] [0, 1])
 AH1
def AIO : AFb := .ownT 0 [(1, 1)] 5 (.seq (.ops [po_ 4 (.mov (ci_ 0)),
  po_ 5 (.mov (.c .nilIface))] [0, 1])
 AHZ)
def AIL : List VR := [.tmp 4, .tmp 5]
theorem ANh : Tryz.f61.body.bind (trC Tryz.prog Tryz.f61.ntmps) = some (er AIO) := by kernel_rfl
theorem ANl : trR Tryz.prog Tryz.f61.results.toList = some AIL := by kernel_rfl
def AJ5 := AE7 AH1.eq_1
def AJ7 := AE7 AHZ.eq_1
def AIw := AE7 AIO.eq_1
theorem AMg {K : TV → Prop} {e : Env} {H : List Ob} : res AIL e H K = res [.tmp 4, .tmp 5] e H K := AE9 rfl
def AIQ := (And.intro (And.intro @AJ5 @AJ7) (And.intro @AIw @AMg))
def AMY := AGG 19 Tryz.func61 ANh ANl rfl

def AIC : AFb := .seq (.ops [mv_ 5 0,
  so_ 6 (.call 101 [.t 5])] [0, 1])
 (.seq (.ops [mv_ 7 0,
  mv_ 8 0,
  po_ 9 (.nilc (.t 8)),
  po_ 10 (.fieldA 1 1 (.t 9)),
  po_ 11 (.load false 1 (.t 10)),
  mv_ 12 1,
  ⟨some 13, .s (.bslice 1 1 (.val (.int .u8 ((0 : Nat) : Int))) [⟨0, .t 12⟩]), none⟩,
  so_ 14 (.app 1 1 5 (.t 11) (.t 13)),
  po_ 15 (.nilc (.t 7)),
  po_ 16 (.fieldA 1 1 (.t 15)),
  ⟨none, .s (.store 1 (.t 16) (.t 14)), none⟩] [])
 (.seq (.ops [po_ 4 (.mov (.c .nilIface))] [4])
 (.ret)))
def AI8 : AFb := .seq (.ops [po_ 4 (.mov (.c .nilIface))] [0, 1])
 AIC
def AI6 : List VR := [.tmp 4]
theorem AOt : Tryz.f63.body.bind (trC Tryz.prog Tryz.f63.ntmps) = some (er AI8) := by kernel_rfl
theorem AOD : trR Tryz.prog Tryz.f63.results.toList = some AI6 := by kernel_rfl
def ALd := AE7 AIC.eq_1
def ANr := AE7 AI8.eq_1
theorem ANj {K : TV → Prop} {e : Env} {H : List Ob} : res AI6 e H K = res [.tmp 4] e H K := AE9 rfl
def AJh := (And.intro (And.intro @ALd @ANr) @ANj)
def AOd := AGG 17 Tryz.func63 AOt AOD rfl

end Go.Proofs.YtliaddbbmnfioaaGreatDoor


namespace Go.Proofs.YtliaddbbmnfioaaGreatDoor
open Go.RowKit
variable [AFG]
set_option linter.unusedSectionVars false
set_option linter.unusedVariables false
set_option linter.unusedSimpArgs false

theorem A3S {id ver j v : Nat} {p : List (Nat × Nat)} {x x' : TV} {l : List UInt8} {c : UInt8} {H : List Ob} {K : TV → List Ob → Prop} (hB : Bld H id ver p j v x l) (hlen : l.length + 1 ≤ 140737488355328)
  (hs : ANf p x (.agg [.op id ver p, .os 1 j v [] 0 l.length l.length]) = some x') (hk : ∀ x'', ANf p x (.agg [.op id ver p, .os 1 j (v + 1) [] 0 (l ++ [c]).length (l ++ [c]).length]) = some x'' → K (.val .nilIface) ((H.set id (.obj ver x'')).set j (.bld (v + 1) 5 (l ++ [c])) ++ [.obj 0 (.arr 1 1 [by8 c])])) :
  AFk Tryz.prog 63 [.op id ver p, by8 c] H K := by
 obtain ⟨ho, ⟨a, ha, hg⟩, hj, hne, q, T, m, hq, hT⟩ := hB
 refine AOd (by simp) ?_
 simp -dsimp (disch := first | assumption | omega) only [↓AFe, AFa, AFc, AFd, eq_self, Nat.reduceEqDiff, ↓reduceIte, Nat.reduceAdd, reduceCtorEq, ↓AJh]
 refine A3I ho hg rfl ha hq hT hs rfl ?_
 have hid : id < H.length := (List.getElem?_eq_some_iff.1 ho).1
 have hjl : j < H.length := (List.getElem?_eq_some_iff.1 hj).1
 obtain ⟨g1, x'', g2, g3⟩ := A4w (b' := .os 1 j (v + 1) [] 0 (l ++ [c]).length (l ++ [c]).length) (AL4 ha) (by rfl) (by rfl) (by rfl) (by rfl) hg hs
 have hll : (H.set id (.obj ver x')).length = H.length := by simp
 have b1 : ∀ {G : List Ob} {o g : Ob} {i : Nat}, G[i]? = some o → (G ++ [g])[i]? = some o := fun h => by rw [List.getElem?_append_left (List.getElem?_eq_some_iff.1 h).1]; exact h
 have f0 : (H.set id (.obj ver x') ++ [Ob.obj 0 (.arr 1 1 [by8 c])])[H.length]? = some (.obj 0 (.arr 1 1 [by8 c])) := by
  rw [← hll, List.getElem?_append_right (Nat.le_refl _)]; simp
 have f1 : (H.set id (.obj ver x'))[id]? = some (.obj ver x') := by simp [hid]
 have f2 : (H.set id (.obj ver x') ++ [Ob.obj 0 (.arr 1 1 [by8 c])])[j]? = some (.bld v 5 l) := b1 (by rw [List.getElem?_set_ne hne]; exact hj)
 have f5 : (H.set id (.obj ver x') ++ [Ob.obj 0 (.arr 1 1 [by8 c])]).set j (.bld (v + 1) 5 (l ++ [c])) = (H.set id (.obj ver x')).set j (.bld (v + 1) 5 (l ++ [c])) ++ [Ob.obj 0 (.arr 1 1 [by8 c])] := by
  rw [List.set_append_left _ _ (by rw [hll]; exact hjl)]
 have f3 : ((H.set id (.obj ver x')).set j (.bld (v + 1) 5 (l ++ [c])) ++ [Ob.obj 0 (.arr 1 1 [by8 c])])[id]? = some (.obj ver x') := b1 (by rw [List.getElem?_set_ne (Ne.symm hne)]; exact f1)
 have f4 : ((H.set id (.obj ver x')).set j (.bld (v + 1) 5 (l ++ [c])) ++ [Ob.obj 0 (.arr 1 1 [by8 c])]).set id (.obj ver x'') = (H.set id (.obj ver x'')).set j (.bld (v + 1) 5 (l ++ [c])) ++ [Ob.obj 0 (.arr 1 1 [by8 c])] := by
  rw [List.set_append_left _ _ (by simpa using hid), List.set_comm _ _ hne, List.set_set, List.set_comm _ _ hne.symm]
 have one : (List.replicate 1 (TV.val (Value.int IntKind.u8 ((0 : Nat) : Int)))).set 0 (by8 c) = [by8 c] := by simp
 have tk1 : [by8 c].take 1 = [by8 c] := by simp
 have tkl : l.take l.length = l := List.take_length
 have e1 : (l ++ [c]).length = l.length + 1 := by simp
 rw [e1] at g2
 have hk' := hk x'' g3
 simp -dsimp (disch := first | assumption | omega) only [↓AFe, AFa, AFc, AFd, eq_self, Nat.reduceEqDiff, ↓reduceIte, reduceCtorEq, Nat.reduceLeDiff, ↓AJh, f0, f1, f2, f3, f4, f5, g1, g2, one, tk1]
 exact hk'
end Go.Proofs.YtliaddbbmnfioaaGreatDoor


namespace Go.Proofs.YtliaddbbmnfioaaGreatDoor
open Go.RowKit
variable [AFG]
set_option linter.unusedSectionVars false
set_option linter.unusedVariables false

set_option maxHeartbeats 2000000 in
set_option maxRecDepth 100000 in
theorem A4v (s : ByteArray) (cv : Int) (w : World) :
  Calls Tryz.prog 165 #[.string s, .int .u8 cv] w fun e w' => e = .returned (.int .i64 (Lib.indexByte s.data.toList cv.toNat.toUInt8)) ∧ w' = w := by
 go_enter Tryz.func165, Tryz.ntmps165
 go_wp2
 rw [run_callFunc_extern Tryz.func178 (by kernel_rfl) (by kernel_rfl) (by kernel_rfl) (e := Extern.BytealgIndexByte.indexByte) (by kernel_rfl), Lib.run_indexByteString s cv w]
 simp only [Result.andThen]
 rw [Oper.upon_value]
 go_wp2
 go_ret
 exact ⟨rfl, rfl⟩
theorem AFE.ofCalls {f : FuncId} {args : List Value} {r : Value} (h : ∀ w, Calls Tryz.prog f args.toArray w fun e w' => e = .returned r ∧ w' = w) : AFE Tryz.prog f (args.map .val) (fun x => x = .val r) := by
 intro β F w vs hF hv
 have hvs : vs = args := by
  clear h hF
  induction args generalizing vs with
  | nil => rw [List.map_nil, AF9.nil] at hv; exact hv
  | cons a args ih =>
   rw [List.map_cons] at hv
   obtain ⟨v, us, rfl, h1, h2⟩ := AF9.cons.1 hv
   have := Rep.val.1 (Or.inl h1 : Rep _ _ _ _)
   rw [this, ih us h2]
 subst hvs
 refine (h w).mono ?_
 rintro e w' ⟨rfl, rfl⟩
 exact ⟨_, _, F, rfl, rfl, Rep.of_val, ⟨rfl, rfl, rfl, Nat.le_refl _, fun _ _ => rfl, fun _ h => h, fun _ _ h => h, hF.1⟩⟩
theorem A7d (l : List UInt8) (c : UInt8) : AFE Tryz.prog 165 [.val (.string (str l)), by8 c] (fun x => x = .val (.int .i64 (Lib.indexByte l c))) := by
 have h := AFE.ofCalls (f := 165) (args := [.string (str l), .int .u8 c.toNat]) (r := .int .i64 (Lib.indexByte l c)) (fun w => by
  have h1 := A4v (str l) c.toNat w
  have e1 : (str l).data.toList = l := by simp [str]
  have e2 : ((c.toNat : Int)).toNat.toUInt8 = c := by rw [Int.toNat_natCast]; simp
  rw [e1, e2] at h1; exact h1)
 exact h
end Go.Proofs.YtliaddbbmnfioaaGreatDoor


namespace Go.Proofs.YtliaddbbmnfioaaGreatDoor
open Go.RowKit
variable [AFG]
set_option linter.unusedSectionVars false
set_option linter.unusedVariables false
set_option linter.unusedSimpArgs false

/-- A digit of 0 to 15. -/
def dig (n : Nat) : UInt8 := UInt8.ofNat (if n < 10 then 48 + n else 87 + n)
/-- The digits of bytes. -/
def AHl (l : List UInt8) : List UInt8 := l.flatMap fun x => [dig (x.toNat / 16), dig (x.toNat % 16)]
def A2v : List UInt8 := [48, 49, 50, 51, 52, 53, 54, 55, 56, 57, 97, 98, 99, 100, 101, 102]
theorem A6e : ∀ n, n < 16 → A2v[n]? = some (dig n) := by decide
theorem Bno (n : Nat) : n &&& 15 = n % 16 := Nat.and_two_pow_sub_one_eq_mod n 4
theorem AM0 (l : List UInt8) : (AHl l).length = 2 * l.length := by
 induction l with
 | nil => rfl
 | cons x l ih =>
  have e : AHl (x :: l) = dig (x.toNat / 16) :: dig (x.toNat % 16) :: AHl l := rfl
  rw [e, List.length_cons, List.length_cons, List.length_cons, ih]; omega
theorem A3M (l : List UInt8) (x : UInt8) : AHl (l ++ [x]) = AHl l ++ [dig (x.toNat / 16)] ++ [dig (x.toNat % 16)] := by simp [AHl]
theorem BhP : A2v = [48, 49, 50, 51, 52, 53, 54, 55, 56, 57, 97, 98, 99, 100, 101, 102] := rfl
set_option maxRecDepth 100000 in
theorem Bmj : A4q 118 2 0 := ⟨by decide, by kernel_rfl⟩

theorem AL1 {l : List UInt8} : bl (str l) = l := by simp [bl, str]
/-- The builder in digest.Hex. -/
theorem BpI {l : List UInt8} {n : Nat} {arr a : TV} {v : Nat} {G : List Ob} (hn : n = l.length) (ha : AXH 1 0 [] a) : Bld ([.obj 0 arr, .obj 0 (.agg [a, .os 1 3 v [] 0 n n]), .fact 1 0 118 2, .bld v 5 l] ++ G) 1 0 [] 3 v (.agg [a, .os 1 3 v [] 0 n n]) l :=
 hn ▸   ⟨rfl, ⟨a, ha, rfl⟩, rfl, by decide, ⟨2, _, _, rfl, Bmj⟩⟩
theorem BmJ {a b c : TV} (ha : AFo a = 1) (hb : AFo b = 1) : ANf [] (.agg [a, b]) (.agg [.op 1 0 [], c]) = if AFo c = 1 then some (.agg [.op 1 0 [], c]) else none := by
 rw [AJi]
 have e : AFo (.agg [a, b]) = 2 := by simp [AFo, AFU, ha, hb]
 have e2 : AFo (.agg [.op 1 0 [], c]) = 1 + AFo c := by simp [AFo, AFU]
 rw [e, e2]
 by_cases h : AFo c = 1
 ·rw [if_pos h, if_pos (by omega)]
 ·rw [if_neg h, if_neg (by omega)]
theorem BpQ {x : UInt8} : AHA 5 .shr (.int .u8 (x.toNat : Int)) (.int .u64 ((4 : Nat) : Int)) = some (.int .u8 ((x.toNat / 16 : Nat) : Int)) := BkT (by have := x.toNat_lt; omega) (by omega)
theorem BpP {x : UInt8} : AHA 5 .and (.int .u8 (x.toNat : Int)) (.int .u8 ((15 : Nat) : Int)) = some (.int .u8 ((x.toNat % 16 : Nat) : Int)) := by rw [Bk6 (by have := x.toNat_lt; omega) (by omega), Bno]
theorem BpY (l : List UInt8) (hl : l.length = 20) : AFE Tryz.prog 30 [.arr 20 1 (l.map by8)] (fun r => r = .val (.string (str (AHl l)))) := by
 refine AFk.toPureV (A4Y (by simp) ?_)
 simp -dsimp (disch := first | assumption | omega) only [↓AFe, AFa, AFc, AFd, eq_self, Nat.reduceEqDiff, ↓reduceIte, Nat.reduceAdd, ↓AUl]
 refine AI0 (fun q e H => ∃ (i v : Nat) (a : TV), q = 20 - i ∧ i ≤ 20 ∧ AXH 1 0 [] a ∧ e = [(3, .op 1 0 []), (6, .arr 20 1 (l.map by8)), (7, i64 (i : Int))] ∧
  H = [.obj 0 (.arr 20 1 (l.map by8)), .obj 0 (.agg [a, .os 1 3 v [] 0 (AHl (l.take i)).length (AHl (l.take i)).length]), .fact 1 0 118 2, .bld v 5 (AHl (l.take i))]) 20 ?_ ?_
 ·exact ⟨0, 0, _, by simp, by simp, .inl rfl, rfl, by simp [AHl]⟩
 ·rintro q e H ⟨i, v, a, rfl, hi, ha, rfl, rfl⟩
  by_cases h : i < 20
  ·have hg : l[i]? = some l[i] := List.getElem?_eq_getElem (by omega)
   have hsucc := List.take_succ_eq_append_getElem (l := l) (i := i) (by omega)
   have hsn := A3M (l.take i) l[i]
   rw [← hsucc] at hsn
   have hlen : (AHl (l.take i)).length = 2 * i := by rw [AM0, List.length_take]; omega
   generalize hr2 : AHl (l.take (i + 1)) = r2 at *
   generalize AHl (l.take i) = r at *
   generalize l[i] = c at *
   have hc := c.toNat_lt
   have t1 := A6e (c.toNat / 16) (by omega)
   have t2 := A6e (c.toNat % 16) (by omega)
   rw [BhP] at t1 t2
   simp -dsimp (disch := first | assumption | omega) only [↓AFe, AFa, AFc, AFd, eq_self, Nat.reduceEqDiff, ↓reduceIte, ↓AUl, hg, BpQ, t1, AL1]
   refine A3S (BpI (l := r) (G := []) rfl ha) (by omega) (by rw [BmJ (AL4 ha) rfl]; rfl) (fun x2 h2 => ?_)
   rw [BmJ (AL4 ha) rfl] at h2
   obtain rfl := Option.some.inj h2
   simp -dsimp (disch := first | assumption | omega) only [↓AFe, AFa, AFc, AFd, eq_self, Nat.reduceEqDiff, ↓reduceIte, BpP, t2, AL1]
   refine A3S (BpI (l := r ++ [dig (c.toNat / 16)]) (G := [_]) (by simp) (.inr rfl)) (by simp; omega) (by rw [BmJ rfl rfl]; rfl) (fun x2 h2 => ?_)
   rw [BmJ rfl rfl] at h2
   obtain rfl := Option.some.inj h2
   simp -dsimp (disch := first | assumption | omega) only [↓AFe, AFa, AFc, AFd, eq_self, Nat.reduceEqDiff, ↓reduceIte, Nat.reduceAdd]
   rw [← hsn]
   exact A7g (20 - (i + 1)) 4 (by omega) (by simp) rfl rfl ⟨i + 1, v + 1 + 1, _, rfl, by omega, .inr rfl, rfl, by rw [hr2, hsn]; simp⟩
  ·have hi2 : i = 20 := by omega
   subst hi2
   have htl : l.take 20 = l := List.take_of_length_le (by omega)
   rw [htl]
   have hl2 : (AHl l).length = 40 := by rw [AM0]; omega
   have hw := AL4 ha
   have hb := Bcs
   simp -dsimp (disch := first | assumption | omega) only [↓AFe, AFa, AFc, AFd, eq_self, Nat.reduceLT, Nat.reduceEqDiff, ↓reduceIte, ↓AUl, hb]
end Go.Proofs.YtliaddbbmnfioaaGreatDoor


namespace Go.Proofs.YtliaddbbmnfioaaGreatDoor
open Go.RowKit Go.Extern.Stop Go.Stop Go.Extern
variable [AFG]
set_option linter.unusedSectionVars false


theorem A7j (t : Addr) (w : World) : (ReflectliteValue.unpack (.iface 83 (.pointer (some t)))).run Tryz.prog w
  = .ok (.agg #[.pointer (some ⟨10, 83, none⟩), .pointer (some ⟨w.heap.size, 0, none⟩), .int .u64 150]) (w.alloc (.cells #[.pointer (some t)] 83)) := by kernel_rfl
theorem Bc6 (a : Addr) (w : World) : (ReflectliteValue.methodAny (ReflectliteValue.valueError "reflectlite.Value.Type" 0) (fun t _ _ _ => ReflectliteType.toType t) #[.agg #[.pointer (some ⟨10, 83, none⟩), .pointer (some a), .int .u64 150]]).run Tryz.prog w
  = .ok (.iface 175 (.agg #[.pointer (some ⟨10, 83, none⟩)])) w := by kernel_rfl
theorem A6q (h : Value) (w : World) : (Go.method 384 175 (.agg #[h]) "Kind").run Tryz.prog w = .ok (195, h) w := by kernel_rfl
theorem Bfs (w : World) : ((ReflectliteType.abiMethod fun t => (fun a : Nat => Value.int IntKind.u8 (a : Int)) <$> Rtype.kind t) #[.pointer (some ⟨10, 83, none⟩)]).run Tryz.prog w = .ok (.int .u8 22) w := by kernel_rfl
theorem BeJ (w : World) : ((ReflectliteType.abiMethod fun t => (fun a : Nat => Value.int IntKind.u8 (a : Int)) <$> Rtype.kind t) #[.pointer (some ⟨10, 34, none⟩)]).run Tryz.prog w = .ok (.int .u8 2) w := by kernel_rfl

theorem rlm (z : Sem Value) (f : TypeId → Addr → Nat → Nat → Sem Value) (v : Value) :
  ReflectliteValue.method z f #[v] = (do match ← ReflectliteValue.parts v with | none => z | some (t, a, fl) => f t a fl (fl % 32)) := rfl
theorem A5X (a : Addr) (w : World) : (ReflectliteValue.parts (.agg #[.pointer (some ⟨10, 83, none⟩), .pointer (some a), .int .u64 150])).run Tryz.prog w = .ok (some (83, a, 150)) w := by kernel_rfl
/-- (Value).IsNil at the Value of a **p.E that is not nil. -/
theorem Bau (a p : Addr) (W : World) (ha : W.cell? a = some (.pointer (some p))) :
  (ReflectliteValue.method (ReflectliteValue.valueError "reflectlite.Value.IsNil" 0) ReflectliteValue.isNil #[.agg #[.pointer (some ⟨10, 83, none⟩), .pointer (some a), .int .u64 150]]).run Tryz.prog W = .ok (.bool false) W := by
 rw [rlm]
 simp only [Sem.run_bind, A5X, Result.andThen]
 simp [ReflectliteValue.isNil, loadVar, isAgg, underlying, Tryz.underlying83, ha, Result.andThen]

theorem A6J (h : Value) (w : World) : (Go.method 384 175 (.agg #[h]) "Elem").run Tryz.prog w = .ok (206, .agg #[h]) w := by kernel_rfl
theorem AZF (h : Value) (w : World) : (Go.method 384 175 (.agg #[h]) "Implements").run Tryz.prog w = .ok (207, .agg #[h]) w := by kernel_rfl
theorem AV5 (h : Value) (w : World) : (Go.method 384 175 (.agg #[h]) "AssignableTo").run Tryz.prog w = .ok (204, .agg #[h]) w := by kernel_rfl
theorem Bd3 (w : World) : (ReflectliteType.method ReflectliteType.elem #[.agg #[.pointer (some ⟨10, 83, none⟩)]]).run Tryz.prog w = .ok (.iface 175 (.agg #[.pointer (some ⟨10, 34, none⟩)])) w := by kernel_rfl
theorem A3g (w : World) : (ReflectliteType.relation "Implements" ReflectliteType.implements_ #[.agg #[.pointer (some ⟨10, 34, none⟩)], .iface 175 (.agg #[.pointer (some ⟨10, 31, none⟩)])]).run Tryz.prog w = .ok (.bool true) w := by kernel_rfl
theorem A9G (v : Value) (w : World) : (ReflectliteType.typeOf #[.iface 34 v]).run Tryz.prog w = .ok (.iface 175 (.agg #[.pointer (some ⟨10, 34, none⟩)])) w := by kernel_rfl
theorem A3i (w : World) : (ReflectliteType.relation "AssignableTo" ReflectliteType.assignableTo #[.agg #[.pointer (some ⟨10, 34, none⟩)], .iface 175 (.agg #[.pointer (some ⟨10, 34, none⟩)])]).run Tryz.prog w = .ok (.bool true) w := by kernel_rfl
theorem A7l (e : Int) (w : World) : (ReflectliteValue.unpack (.iface 34 (.int .i64 e))).run Tryz.prog w
  = .ok (.agg #[.pointer (some ⟨10, 34, none⟩), .pointer (some ⟨w.heap.size, 0, none⟩), .int .u64 130]) (w.alloc (.cells #[.int .i64 e] 34)) := by kernel_rfl

theorem A84 (w : World) : (Rtype.elem? 83).run Tryz.prog w = .ok (some 34) w := by kernel_rfl
theorem BlU (p : Addr) (w : World) : (ReflectliteValue.mk 34 p ReflectliteValue.flagAddr).run Tryz.prog w = .ok (.agg #[.pointer (some ⟨10, 34, none⟩), .pointer (some p), .int .u64 386]) w := by kernel_rfl
/-- (Value).Elem at the Value of a **p.E that is not nil: the Value of the *p.E variable that it points to, addressable. -/
theorem BaX (a p : Addr) (W : World) (ha : W.cell? a = some (.pointer (some p))) :
  (ReflectliteValue.method (ReflectliteValue.valueError "reflectlite.Value.Elem" 0) ReflectliteValue.elem #[.agg #[.pointer (some ⟨10, 83, none⟩), .pointer (some a), .int .u64 150]]).run Tryz.prog W
   = .ok (.agg #[.pointer (some ⟨10, 34, none⟩), .pointer (some p), .int .u64 386]) W := by
 rw [rlm]
 simp only [Sem.run_bind, A5X, Result.andThen]
 simp [ReflectliteValue.elem, loadVar, isAgg, underlying, Tryz.underlying83, ha, Result.andThen, A84, BlU]
theorem rls (v x : Value) : ReflectliteValue.set #[v, x] = (do
  let (some (dst, a, fl), some (src, b, _)) := (← ReflectliteValue.parts v, ← ReflectliteValue.parts x)
   | unsupported (.noEntry "extern/(internal/reflectlite.Value).Set.zeroValue")
  if fl / ReflectliteValue.flagAddr % 2 == 0 then unsupported (.noEntry "extern/(internal/reflectlite.Value).Set.unaddressable")
  let val ← loadVar src b
  if ← Rtype.directlyAssignable dst src then storeVar dst a val
  else if ← Rtype.implements dst src then
   if (← Rtype.kind src) == 20 then
    match val with
    | .nilIface => unsupported (.noEntry "extern/reflectlite: a nil value of one interface type handed on as a value of another")
    | _ => storeVar dst a val
   else storeVar dst a (.iface src val)
  else panicString ("reflectlite.Set: value of type " ++ (← Rtype.spelt src) ++ " is not assignable to type " ++ (← Rtype.spelt dst))
  pure (.tuple #[])) := rfl
theorem A9B (a : Addr) (w : World) : (ReflectliteValue.parts (.agg #[.pointer (some ⟨10, 34, none⟩), .pointer (some a), .int .u64 386])).run Tryz.prog w = .ok (some (34, a, 386)) w := by kernel_rfl
theorem BbM (a : Addr) (w : World) : (ReflectliteValue.parts (.agg #[.pointer (some ⟨10, 34, none⟩), .pointer (some a), .int .u64 130])).run Tryz.prog w = .ok (some (34, a, 130)) w := by kernel_rfl
theorem A9h (w : World) : (Rtype.directlyAssignable 34 34).run Tryz.prog w = .ok true w := by kernel_rfl
/-- (Value).Set: the *p.E variable at 'ta' gets what the Value's own variable 'b' holds. -/
theorem Bi2 (ta b : Addr) (e : Int) (old : Value) (W : World) (hb : W.cell? b = some (.int .i64 e)) (ht : W.cell? ta = some old) (hf : W.frozen? ta = false) :
  (ReflectliteValue.set #[.agg #[.pointer (some ⟨10, 34, none⟩), .pointer (some ta), .int .u64 386], .agg #[.pointer (some ⟨10, 34, none⟩), .pointer (some b), .int .u64 130]]).run Tryz.prog W
   = .ok (.tuple #[]) (W.setCell ta (.int .i64 e)) := by
 rw [rls]
 simp only [Sem.run_bind, A9B, BbM, Result.andThen]
 simp [ReflectliteValue.flagAddr, loadVar, isAgg, underlying, Tryz.underlying34, hb, Result.andThen, A9h, storeVar, Value.cells, storeCells, Addr.add]
 rw [run_store Tryz.prog W ta _ _ (by rfl)]
 simp [ht, hf]

set_option maxHeartbeats 4000000 in
theorem BjU (e : Int) (t : Addr) (old : Value) (w : World) (hg : w.cell? ⟨1, 0, none⟩ = some (.iface 175 (.agg #[.pointer (some ⟨10, 31, none⟩)]))) (ht0 : w.cell? t = some old) (hf0 : w.frozen? t = false) :
  Calls Tryz.prog 31 #[.iface 34 (.int .i64 e), .iface 83 (.pointer (some t))] w fun ev w' => ev = .returned (.bool true) ∧ w' = ((((w.alloc (.cells #[.pointer (some t)] 83)).alloc (.cells #[.pointer (some ⟨10, 83, none⟩), .pointer (some ⟨w.heap.size, 0, none⟩), .int .u64 150] 127)).alloc (.cells #[.pointer (some ⟨10, 83, none⟩), .pointer (some ⟨w.heap.size, 0, none⟩), .int .u64 150] 127)).alloc (.cells #[.int .i64 e] 34)).setCell t (.int .i64 e) := by
 have h6 := @run_callFunc_extern Tryz.prog 64 _ (fun args => ReflectliteValue.unpack (args.getD 0 (.tuple #[]))) Tryz.func64 (by kernel_rfl) (by kernel_rfl) (by kernel_rfl) (by kernel_rfl)
 have h7 := @run_callFunc_extern Tryz.prog 65 _ (ReflectliteValue.methodAny (ReflectliteValue.valueError "reflectlite.Value.Type" 0) (fun t _ _ _ => ReflectliteType.toType t)) Tryz.func65 (by kernel_rfl) (by kernel_rfl) (by kernel_rfl) (by kernel_rfl)
 have h8 := @run_callFunc_extern Tryz.prog 66 _ (ReflectliteValue.method (ReflectliteValue.valueError "reflectlite.Value.IsNil" 0) ReflectliteValue.isNil) Tryz.func66 (by kernel_rfl) (by kernel_rfl) (by kernel_rfl) (by kernel_rfl)
 have h27 := @run_callFunc_extern Tryz.prog 195 _ (ReflectliteType.abiMethod fun t => do pure (.int .u8 (← Rtype.kind t))) Tryz.func195 (by kernel_rfl) (by kernel_rfl) (by kernel_rfl) (by kernel_rfl)
 have h37 := @run_callFunc_extern Tryz.prog 206 _ (ReflectliteType.method ReflectliteType.elem) Tryz.func206 (by kernel_rfl) (by kernel_rfl) (by kernel_rfl) (by kernel_rfl)
 have h38 := @run_callFunc_extern Tryz.prog 207 _ (ReflectliteType.relation "Implements" ReflectliteType.implements_) Tryz.func207 (by kernel_rfl) (by kernel_rfl) (by kernel_rfl) (by kernel_rfl)
 have h10 := @run_callFunc_extern Tryz.prog 102 _ ReflectliteType.typeOf Tryz.func102 (by kernel_rfl) (by kernel_rfl) (by kernel_rfl) (by kernel_rfl)
 have h35 := @run_callFunc_extern Tryz.prog 204 _ (ReflectliteType.relation "AssignableTo" ReflectliteType.assignableTo) Tryz.func204 (by kernel_rfl) (by kernel_rfl) (by kernel_rfl) (by kernel_rfl)
 have h11 := @run_callFunc_extern Tryz.prog 103 _ (ReflectliteValue.method (ReflectliteValue.valueError "reflectlite.Value.Elem" 0) ReflectliteValue.elem) Tryz.func103 (by kernel_rfl) (by kernel_rfl) (by kernel_rfl) (by kernel_rfl)
 have h12 := @run_callFunc_extern Tryz.prog 104 _ ReflectliteValue.set Tryz.func104 (by kernel_rfl) (by kernel_rfl) (by kernel_rfl) (by kernel_rfl)
 have tO := A9G
 have mA := AV5
 have a25 := A3i
 have v25 := A7l
 have f6 := A7j
 have f7 := Bc6
 have mK := A6q
 have mE := A6J
 have mI := AZF
 have k27 := Bfs
 have k25 := BeJ
 have e27 := Bd3
 have i25 := A3g
 have n8 := Bau ⟨w.heap.size, 0, none⟩ t ((w.alloc (.cells #[.pointer (some t)] 83)).alloc (.cells #[.pointer (some ⟨10, 83, none⟩), .pointer (some ⟨w.heap.size, 0, none⟩), .int .u64 150] 127)) (by simp)
 have hlt : 1 < w.heap.size := by
  rcases Nat.lt_or_ge 1 w.heap.size with h | h
  ·exact h
  ·simp [World.cell?, Array.getElem?_eq_none h] at hg
 have hg2 : ((w.alloc (.cells #[.pointer (some t)] 83)).alloc (.cells #[.pointer (some ⟨10, 83, none⟩), .pointer (some ⟨w.heap.size, 0, none⟩), .int .u64 150] 127)).cell? ⟨1, 0, none⟩ = some (.iface 175 (.agg #[.pointer (some ⟨10, 31, none⟩)])) := by
  rw [World.cell?_alloc_lt _ _ ⟨1, 0, none⟩ (Nat.lt_of_lt_of_le hlt (by simp)), World.cell?_alloc_lt _ _ ⟨1, 0, none⟩ hlt]; exact hg
 have htl : t.block < w.heap.size := by
  rcases Nat.lt_or_ge t.block w.heap.size with h | h
  ·exact h
  ·simp [World.cell?, Array.getElem?_eq_none h] at ht0
 have el := BaX ⟨w.heap.size, 0, none⟩ t (((w.alloc (.cells #[.pointer (some t)] 83)).alloc (.cells #[.pointer (some ⟨10, 83, none⟩), .pointer (some ⟨w.heap.size, 0, none⟩), .int .u64 150] 127)).alloc (.cells #[.pointer (some ⟨10, 83, none⟩), .pointer (some ⟨w.heap.size, 0, none⟩), .int .u64 150] 127)) (by rw [World.cell?_alloc_lt _ _ ⟨w.heap.size, 0, none⟩ (by simp; omega)]; simp)
 have st := Bi2 t ⟨w.heap.size + 1 + 1 + 1, 0, none⟩ e old ((((w.alloc (.cells #[.pointer (some t)] 83)).alloc (.cells #[.pointer (some ⟨10, 83, none⟩), .pointer (some ⟨w.heap.size, 0, none⟩), .int .u64 150] 127)).alloc (.cells #[.pointer (some ⟨10, 83, none⟩), .pointer (some ⟨w.heap.size, 0, none⟩), .int .u64 150] 127)).alloc (.cells #[.int .i64 e] 34))
  (by rw [World.cell?_alloc_at _ _ _ _ (by simp)]; rfl)
  (by rw [World.cell?_alloc_lt _ _ t (by simp; omega), World.cell?_alloc_lt _ _ t (by simp; omega), World.cell?_alloc_lt _ _ t (by simp; omega), World.cell?_alloc_lt _ _ t htl]; exact ht0)
  (by rw [World.frozen?_alloc_old _ _ t (by simp; omega), World.frozen?_alloc_old _ _ t (by simp; omega), World.frozen?_alloc_old _ _ t (by simp; omega), World.frozen?_alloc_old _ _ t (Nat.ne_of_lt htl)]; exact hf0)
 go_enter Tryz.func31, Tryz.ntmps31
 go_wp2
 refine wp_loop_rounds 1 ?_
 rw [rounds_succ]
 go_wp2
 go_ret
 exact ⟨rfl, rfl⟩
end Go.Proofs.YtliaddbbmnfioaaGreatDoor

