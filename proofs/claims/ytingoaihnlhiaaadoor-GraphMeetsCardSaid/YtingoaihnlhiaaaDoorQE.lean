/- What the proof of GraphMeetsCard stands on (texts merged; names shortened by a program): part 5. -/
import Derived.Test.YtingoaihnlhiaaaDoorQD
import Derived.Test.YtingoaihnlhiaaaDoorProg
import Derived.KernelRfl
import Derived.Shelf.SlSortCmp.NoneTotal
import Derived.Ground.SlsfProg
import Derived.WalkKit
import Derived.Deep.RegionWith
import Derived.Lib.BytesEntry
import Derived.Lib.Bytealg
import Derived.Shelf.Bytes.SlIndexAt
namespace Go.Proofs.YtingoaihnlhiaaaDoor
variable [Bc]
set_option linter.unusedSectionVars false
set_option linter.unusedVariables false
set_option linter.defProp false
set_option maxRecDepth 100000

def RZ : Af := .seq (.block 1 (.seq (.ops [po_ 30 (.idxA 22 (.t 26) (.t 28)),
  po_ 31 (.load true 22 (.t 30)),
  so_ 6 (.alloc (.agg [.arr 20 1 [.val (.int .u8 ((0 : Nat) : Int)), .val (.int .u8 ((0 : Nat) : Int)), .val (.int .u8 ((0 : Nat) : Int)), .val (.int .u8 ((0 : Nat) : Int)), .val (.int .u8 ((0 : Nat) : Int)), .val (.int .u8 ((0 : Nat) : Int)), .val (.int .u8 ((0 : Nat) : Int)), .val (.int .u8 ((0 : Nat) : Int)), .val (.int .u8 ((0 : Nat) : Int)), .val (.int .u8 ((0 : Nat) : Int)), .val (.int .u8 ((0 : Nat) : Int)), .val (.int .u8 ((0 : Nat) : Int)), .val (.int .u8 ((0 : Nat) : Int)), .val (.int .u8 ((0 : Nat) : Int)), .val (.int .u8 ((0 : Nat) : Int)), .val (.int .u8 ((0 : Nat) : Int)), .val (.int .u8 ((0 : Nat) : Int)), .val (.int .u8 ((0 : Nat) : Int)), .val (.int .u8 ((0 : Nat) : Int)), .val (.int .u8 ((0 : Nat) : Int))], .val (.slice none 0 0), .val (.int .i64 ((0 : Nat) : Int))])),
  ⟨none, .s (.store 22 (.t 6) (.t 31)), none⟩] [0, 4, 6, 26, 27, 28])
 (.draw 6 [mv_ 32 4,
  po_ 33 (.nilc (.t 32)),
  po_ 34 (.fieldA 0 0 (.t 33)),
  po_ 35 (.load false 1 (.t 34)),
  po_ 36 (.fieldA 0 0 (.t 6)),
  po_ 37 (.load true 20 (.t 36)),
  po_ 38 (.load true 22 (.t 6)),
  ⟨none, .s (.mupd (.arr 20) (.t 35) (.t 37) (.t 38)), none⟩] [0, 4, 26, 27, 28])))
 (.ops [po_ 39 (.bin 3 .add (.t 28) (ci_ 1)),
  mv_ 28 39] [0, 4, 26, 27, 28])
def Sv : Af := .seq (.cond (.t 29)
 (.skip)
 (.exit 0))
 RZ
def Td : Af := .seq (.ops [po_ 29 (.bin 3 .lss (.t 28) (.t 27))] [0, 4, 26, 27, 28, 29])
 Sv
def Ti : Af := .block 0 (.loop [0, 4, 26, 27, 28] Td)
def SE : Af := .seq (.seq (.draw 9 [mv_ 69 4,
  po_ 70 (.nilc (.t 69)),
  po_ 71 (.fieldA 0 0 (.t 70)),
  po_ 72 (.load false 1 (.t 71)),
  po_ 73 (.load true 20 (.t 11)),
  po_ 74 (.gen (.look (.arr 20) (.agg [.arr 20 1 [.val (.int .u8 ((0 : Nat) : Int)), .val (.int .u8 ((0 : Nat) : Int)), .val (.int .u8 ((0 : Nat) : Int)), .val (.int .u8 ((0 : Nat) : Int)), .val (.int .u8 ((0 : Nat) : Int)), .val (.int .u8 ((0 : Nat) : Int)), .val (.int .u8 ((0 : Nat) : Int)), .val (.int .u8 ((0 : Nat) : Int)), .val (.int .u8 ((0 : Nat) : Int)), .val (.int .u8 ((0 : Nat) : Int)), .val (.int .u8 ((0 : Nat) : Int)), .val (.int .u8 ((0 : Nat) : Int)), .val (.int .u8 ((0 : Nat) : Int)), .val (.int .u8 ((0 : Nat) : Int)), .val (.int .u8 ((0 : Nat) : Int)), .val (.int .u8 ((0 : Nat) : Int)), .val (.int .u8 ((0 : Nat) : Int)), .val (.int .u8 ((0 : Nat) : Int)), .val (.int .u8 ((0 : Nat) : Int)), .val (.int .u8 ((0 : Nat) : Int))], .val (.slice none 0 0), .val (.int .i64 ((0 : Nat) : Int))]) true) [.t 72, .t 73]),
  mv_ 68 74,
  po_ 75 (.ext 0 (.t 68)),
  po_ 76 (.ext 1 (.t 68)),
  so_ 12 (.alloc (.agg [.arr 20 1 [.val (.int .u8 ((0 : Nat) : Int)), .val (.int .u8 ((0 : Nat) : Int)), .val (.int .u8 ((0 : Nat) : Int)), .val (.int .u8 ((0 : Nat) : Int)), .val (.int .u8 ((0 : Nat) : Int)), .val (.int .u8 ((0 : Nat) : Int)), .val (.int .u8 ((0 : Nat) : Int)), .val (.int .u8 ((0 : Nat) : Int)), .val (.int .u8 ((0 : Nat) : Int)), .val (.int .u8 ((0 : Nat) : Int)), .val (.int .u8 ((0 : Nat) : Int)), .val (.int .u8 ((0 : Nat) : Int)), .val (.int .u8 ((0 : Nat) : Int)), .val (.int .u8 ((0 : Nat) : Int)), .val (.int .u8 ((0 : Nat) : Int)), .val (.int .u8 ((0 : Nat) : Int)), .val (.int .u8 ((0 : Nat) : Int)), .val (.int .u8 ((0 : Nat) : Int)), .val (.int .u8 ((0 : Nat) : Int)), .val (.int .u8 ((0 : Nat) : Int))], .val (.slice none 0 0), .val (.int .i64 ((0 : Nat) : Int))])),
  ⟨none, .s (.store 22 (.t 12) (.t 75)), none⟩,
  mv_ 13 76] [0, 4, 7, 11, 13, 55, 56, 57, 62, 63, 64])
 (.seq (.ops [mv_ 77 13,
  po_ 78 (.un .not (.t 77))] [0, 4, 7, 11, 55, 56, 57, 62, 63, 64, 78])
 (.cond (.t 78)
 (.seq (.ops [po_ 79 (.iface 36 (ci_ 80)),
   po_ 2 (.mov (.c (.pointer none))),
   mv_ 3 79] [2, 3])
  (.ret))
 (.skip))))
 (.draw 4 [mv_ 80 7,
  po_ 81 (.load true 20 (.t 11)),
  po_ 82 (.gen (.look (.arr 20) (.val (.int .i64 ((0 : Nat) : Int))) false) [.t 80, .t 81]),
  po_ 83 (.bin 3 .add (.t 82) (ci_ 1)),
  so_ 84 (.ment (.arr 20) (.val (.int .i64 ((0 : Nat) : Int))) (.t 80) (.t 81)),
  po_ 85 (.ext 1 (.t 84)),
  ⟨none, .s (.mest (.t 80) (.t 85) (.t 83)), none⟩] [0, 4, 7, 55, 56, 57, 62, 63, 64])
def TN : Af := .seq (.block 5 (.seq (.ops [po_ 66 (.idxA 20 (.t 62) (.t 64)),
  po_ 67 (.load true 20 (.t 66)),
  so_ 11 (.alloc (.arr 20 1 [.val (.int .u8 ((0 : Nat) : Int)), .val (.int .u8 ((0 : Nat) : Int)), .val (.int .u8 ((0 : Nat) : Int)), .val (.int .u8 ((0 : Nat) : Int)), .val (.int .u8 ((0 : Nat) : Int)), .val (.int .u8 ((0 : Nat) : Int)), .val (.int .u8 ((0 : Nat) : Int)), .val (.int .u8 ((0 : Nat) : Int)), .val (.int .u8 ((0 : Nat) : Int)), .val (.int .u8 ((0 : Nat) : Int)), .val (.int .u8 ((0 : Nat) : Int)), .val (.int .u8 ((0 : Nat) : Int)), .val (.int .u8 ((0 : Nat) : Int)), .val (.int .u8 ((0 : Nat) : Int)), .val (.int .u8 ((0 : Nat) : Int)), .val (.int .u8 ((0 : Nat) : Int)), .val (.int .u8 ((0 : Nat) : Int)), .val (.int .u8 ((0 : Nat) : Int)), .val (.int .u8 ((0 : Nat) : Int)), .val (.int .u8 ((0 : Nat) : Int))])),
  ⟨none, .s (.store 20 (.t 11) (.t 67)), none⟩] [0, 4, 7, 11, 55, 56, 57, 62, 63, 64])
 SE))
 (.ops [po_ 86 (.bin 3 .add (.t 64) (ci_ 1)),
  mv_ 64 86] [0, 4, 7, 55, 56, 57, 62, 63, 64])
def Tz : Af := .seq (.cond (.t 65)
 (.skip)
 (.exit 4))
 TN
def Tu : Af := .seq (.ops [po_ 65 (.bin 3 .lss (.t 64) (.t 63))] [0, 4, 7, 55, 56, 57, 62, 63, 64, 65])
 Tz
def RX : Af := .block 4 (.loop [0, 4, 7, 55, 56, 57, 62, 63, 64] Tu)
def Qp : Af := .seq (.ops [po_ 61 (.fieldA 1 20 (.t 9)),
  po_ 62 (.load false 1 (.t 61)),
  po_ 63 (.lenV (.t 62)),
  po_ 64 (.mov (ci_ 0))] [0, 4, 7, 55, 56, 57, 62, 63, 64])
 RX
def QR : Af := .ops [po_ 87 (.bin 3 .add (.t 57) (ci_ 1)),
  mv_ 57 87] [0, 4, 7, 55, 56, 57]
def Rh : Af := .seq (.block 3 (.seq (.ops [po_ 59 (.idxA 22 (.t 55) (.t 57)),
  po_ 60 (.load true 22 (.t 59)),
  so_ 9 (.alloc (.agg [.arr 20 1 [.val (.int .u8 ((0 : Nat) : Int)), .val (.int .u8 ((0 : Nat) : Int)), .val (.int .u8 ((0 : Nat) : Int)), .val (.int .u8 ((0 : Nat) : Int)), .val (.int .u8 ((0 : Nat) : Int)), .val (.int .u8 ((0 : Nat) : Int)), .val (.int .u8 ((0 : Nat) : Int)), .val (.int .u8 ((0 : Nat) : Int)), .val (.int .u8 ((0 : Nat) : Int)), .val (.int .u8 ((0 : Nat) : Int)), .val (.int .u8 ((0 : Nat) : Int)), .val (.int .u8 ((0 : Nat) : Int)), .val (.int .u8 ((0 : Nat) : Int)), .val (.int .u8 ((0 : Nat) : Int)), .val (.int .u8 ((0 : Nat) : Int)), .val (.int .u8 ((0 : Nat) : Int)), .val (.int .u8 ((0 : Nat) : Int)), .val (.int .u8 ((0 : Nat) : Int)), .val (.int .u8 ((0 : Nat) : Int)), .val (.int .u8 ((0 : Nat) : Int))], .val (.slice none 0 0), .val (.int .i64 ((0 : Nat) : Int))])),
  ⟨none, .s (.store 22 (.t 9) (.t 60)), none⟩] [0, 4, 7, 9, 55, 56, 57])
 Qp))
 QR
def QI : Af := .seq (.cond (.t 58)
 (.skip)
 (.exit 2))
 Rh
def Qo : Af := .seq (.ops [po_ 58 (.bin 3 .lss (.t 57) (.t 56))] [0, 4, 7, 55, 56, 57, 58])
 QI
def QZ : Af := .block 2 (.loop [0, 4, 7, 55, 56, 57] Qo)
def QD : Af := .seq (.block 7 (.seq (.ops [po_ 92 (.idxA 22 (.t 88) (.t 90)),
  po_ 93 (.load true 22 (.t 92)),
  so_ 16 (.alloc (.agg [.arr 20 1 [.val (.int .u8 ((0 : Nat) : Int)), .val (.int .u8 ((0 : Nat) : Int)), .val (.int .u8 ((0 : Nat) : Int)), .val (.int .u8 ((0 : Nat) : Int)), .val (.int .u8 ((0 : Nat) : Int)), .val (.int .u8 ((0 : Nat) : Int)), .val (.int .u8 ((0 : Nat) : Int)), .val (.int .u8 ((0 : Nat) : Int)), .val (.int .u8 ((0 : Nat) : Int)), .val (.int .u8 ((0 : Nat) : Int)), .val (.int .u8 ((0 : Nat) : Int)), .val (.int .u8 ((0 : Nat) : Int)), .val (.int .u8 ((0 : Nat) : Int)), .val (.int .u8 ((0 : Nat) : Int)), .val (.int .u8 ((0 : Nat) : Int)), .val (.int .u8 ((0 : Nat) : Int)), .val (.int .u8 ((0 : Nat) : Int)), .val (.int .u8 ((0 : Nat) : Int)), .val (.int .u8 ((0 : Nat) : Int)), .val (.int .u8 ((0 : Nat) : Int))], .val (.slice none 0 0), .val (.int .i64 ((0 : Nat) : Int))])),
  ⟨none, .s (.store 22 (.t 16) (.t 93)), none⟩] [0, 4, 7, 14, 16, 88, 89, 90])
 (.seq (.ops [mv_ 94 7,
  po_ 95 (.fieldA 0 0 (.t 16)),
  po_ 96 (.load true 20 (.t 95)),
  po_ 97 (.gen (.look (.arr 20) (.val (.int .i64 ((0 : Nat) : Int))) false) [.t 94, .t 96]),
  po_ 98 (.bin 3 .eql (.t 97) (ci_ 0))] [0, 4, 7, 14, 16, 88, 89, 90, 98])
 (.cond (.t 98)
 (.ops [mv_ 99 14,
   po_ 100 (.fieldA 0 0 (.t 16)),
   po_ 101 (.load true 20 (.t 100)),
   ⟨some 102, .s (.bslice 20 1 (.arr 20 1 [.val (.int .u8 ((0 : Nat) : Int)), .val (.int .u8 ((0 : Nat) : Int)), .val (.int .u8 ((0 : Nat) : Int)), .val (.int .u8 ((0 : Nat) : Int)), .val (.int .u8 ((0 : Nat) : Int)), .val (.int .u8 ((0 : Nat) : Int)), .val (.int .u8 ((0 : Nat) : Int)), .val (.int .u8 ((0 : Nat) : Int)), .val (.int .u8 ((0 : Nat) : Int)), .val (.int .u8 ((0 : Nat) : Int)), .val (.int .u8 ((0 : Nat) : Int)), .val (.int .u8 ((0 : Nat) : Int)), .val (.int .u8 ((0 : Nat) : Int)), .val (.int .u8 ((0 : Nat) : Int)), .val (.int .u8 ((0 : Nat) : Int)), .val (.int .u8 ((0 : Nat) : Int)), .val (.int .u8 ((0 : Nat) : Int)), .val (.int .u8 ((0 : Nat) : Int)), .val (.int .u8 ((0 : Nat) : Int)), .val (.int .u8 ((0 : Nat) : Int))]) [⟨0, .t 101⟩]), none⟩,
   so_ 103 (.app 20 20 40 (.t 99) (.t 102)),
   mv_ 14 103] [0, 4, 7, 14, 88, 89, 90])
 (.skip)))))
 (.ops [po_ 104 (.bin 3 .add (.t 90) (ci_ 1)),
  mv_ 90 104] [0, 4, 7, 14, 88, 89, 90])
def QO : Af := .seq (.cond (.t 91)
 (.skip)
 (.exit 6))
 QD
def QF : Af := .seq (.ops [po_ 91 (.bin 3 .lss (.t 90) (.t 89))] [0, 4, 7, 14, 88, 89, 90, 91])
 QO
def QL : Af := .block 6 (.own 14 20 (.loop [0, 4, 7, 14, 88, 89, 90] QF))
def QA : Af := .seq (.draw 4 [mv_ 127 7,
  po_ 128 (.load true 20 (.t 20)),
  po_ 129 (.gen (.look (.arr 20) (.val (.int .i64 ((0 : Nat) : Int))) false) [.t 127, .t 128]),
  po_ 130 (.bin 3 .sub (.t 129) (ci_ 1)),
  so_ 131 (.ment (.arr 20) (.val (.int .i64 ((0 : Nat) : Int))) (.t 127) (.t 128)),
  po_ 132 (.ext 1 (.t 131)),
  ⟨none, .s (.mest (.t 127) (.t 132) (.t 130)), none⟩] [0, 4, 7, 14, 17, 20, 121, 122, 123])
 (.seq (.ops [mv_ 133 7,
  po_ 134 (.load true 20 (.t 20)),
  po_ 135 (.gen (.look (.arr 20) (.val (.int .i64 ((0 : Nat) : Int))) false) [.t 133, .t 134]),
  po_ 136 (.bin 3 .eql (.t 135) (ci_ 0))] [0, 4, 7, 14, 17, 20, 121, 122, 123, 136])
 (.cond (.t 136)
 (.ops [mv_ 137 14,
   po_ 138 (.load true 20 (.t 20)),
   ⟨some 139, .s (.bslice 20 1 (.arr 20 1 [.val (.int .u8 ((0 : Nat) : Int)), .val (.int .u8 ((0 : Nat) : Int)), .val (.int .u8 ((0 : Nat) : Int)), .val (.int .u8 ((0 : Nat) : Int)), .val (.int .u8 ((0 : Nat) : Int)), .val (.int .u8 ((0 : Nat) : Int)), .val (.int .u8 ((0 : Nat) : Int)), .val (.int .u8 ((0 : Nat) : Int)), .val (.int .u8 ((0 : Nat) : Int)), .val (.int .u8 ((0 : Nat) : Int)), .val (.int .u8 ((0 : Nat) : Int)), .val (.int .u8 ((0 : Nat) : Int)), .val (.int .u8 ((0 : Nat) : Int)), .val (.int .u8 ((0 : Nat) : Int)), .val (.int .u8 ((0 : Nat) : Int)), .val (.int .u8 ((0 : Nat) : Int)), .val (.int .u8 ((0 : Nat) : Int)), .val (.int .u8 ((0 : Nat) : Int)), .val (.int .u8 ((0 : Nat) : Int)), .val (.int .u8 ((0 : Nat) : Int))]) [⟨0, .t 138⟩]), none⟩,
   so_ 140 (.app 20 20 40 (.t 137) (.t 139)),
   mv_ 14 140] [0, 4, 7, 14, 17, 121, 122, 123])
 (.skip)))
def QW : Af := .seq (.block 11 (.seq (.ops [po_ 125 (.idxA 20 (.t 121) (.t 123)),
  po_ 126 (.load true 20 (.t 125)),
  so_ 20 (.alloc (.arr 20 1 [.val (.int .u8 ((0 : Nat) : Int)), .val (.int .u8 ((0 : Nat) : Int)), .val (.int .u8 ((0 : Nat) : Int)), .val (.int .u8 ((0 : Nat) : Int)), .val (.int .u8 ((0 : Nat) : Int)), .val (.int .u8 ((0 : Nat) : Int)), .val (.int .u8 ((0 : Nat) : Int)), .val (.int .u8 ((0 : Nat) : Int)), .val (.int .u8 ((0 : Nat) : Int)), .val (.int .u8 ((0 : Nat) : Int)), .val (.int .u8 ((0 : Nat) : Int)), .val (.int .u8 ((0 : Nat) : Int)), .val (.int .u8 ((0 : Nat) : Int)), .val (.int .u8 ((0 : Nat) : Int)), .val (.int .u8 ((0 : Nat) : Int)), .val (.int .u8 ((0 : Nat) : Int)), .val (.int .u8 ((0 : Nat) : Int)), .val (.int .u8 ((0 : Nat) : Int)), .val (.int .u8 ((0 : Nat) : Int)), .val (.int .u8 ((0 : Nat) : Int))])),
  ⟨none, .s (.store 20 (.t 20) (.t 126)), none⟩] [0, 4, 7, 14, 17, 20, 121, 122, 123])
 QA))
 (.ops [po_ 141 (.bin 3 .add (.t 123) (ci_ 1)),
  mv_ 123 141] [0, 4, 7, 14, 17, 121, 122, 123])
def QJ : Af := .seq (.cond (.t 124)
 (.skip)
 (.exit 10))
 QW
def QB : Af := .seq (.ops [po_ 124 (.bin 3 .lss (.t 123) (.t 122))] [0, 4, 7, 14, 17, 121, 122, 123, 124])
 QJ
def QH : Af := .block 10 (.own 14 20 (.loop [0, 4, 7, 14, 17, 121, 122, 123] QB))
def Qz : Af := .seq (.ops [po_ 120 (.fieldA 1 20 (.t 18)),
  po_ 121 (.load false 1 (.t 120)),
  po_ 122 (.lenV (.t 121)),
  po_ 123 (.mov (ci_ 0))] [0, 4, 7, 14, 17, 121, 122, 123])
 QH
def QM : Af := .seq (.ops [mv_ 118 14,
  po_ 119 (.slV 20 (.t 118) (some (ci_ 1)) none),
  mv_ 14 119] [0, 4, 7, 14, 17, 18])
 Qz
def QT : Af := .ops [mv_ 108 17,
  po_ 109 (.bin 3 .add (.t 108) (ci_ 1)),
  mv_ 17 109] [0, 4, 7, 14, 17]
def Rn : Af := .seq (.block 9 (.seq (.draw 4 [mv_ 110 4,
  po_ 111 (.nilc (.t 110)),
  po_ 112 (.fieldA 0 0 (.t 111)),
  po_ 113 (.load false 1 (.t 112)),
  mv_ 114 14,
  po_ 115 (.idxA 20 (.t 114) (ci_ 0)),
  po_ 116 (.load true 20 (.t 115)),
  po_ 117 (.gen (.look (.arr 20) (.agg [.arr 20 1 [.val (.int .u8 ((0 : Nat) : Int)), .val (.int .u8 ((0 : Nat) : Int)), .val (.int .u8 ((0 : Nat) : Int)), .val (.int .u8 ((0 : Nat) : Int)), .val (.int .u8 ((0 : Nat) : Int)), .val (.int .u8 ((0 : Nat) : Int)), .val (.int .u8 ((0 : Nat) : Int)), .val (.int .u8 ((0 : Nat) : Int)), .val (.int .u8 ((0 : Nat) : Int)), .val (.int .u8 ((0 : Nat) : Int)), .val (.int .u8 ((0 : Nat) : Int)), .val (.int .u8 ((0 : Nat) : Int)), .val (.int .u8 ((0 : Nat) : Int)), .val (.int .u8 ((0 : Nat) : Int)), .val (.int .u8 ((0 : Nat) : Int)), .val (.int .u8 ((0 : Nat) : Int)), .val (.int .u8 ((0 : Nat) : Int)), .val (.int .u8 ((0 : Nat) : Int)), .val (.int .u8 ((0 : Nat) : Int)), .val (.int .u8 ((0 : Nat) : Int))], .val (.slice none 0 0), .val (.int .i64 ((0 : Nat) : Int))]) false) [.t 113, .t 116]),
  so_ 18 (.alloc (.agg [.arr 20 1 [.val (.int .u8 ((0 : Nat) : Int)), .val (.int .u8 ((0 : Nat) : Int)), .val (.int .u8 ((0 : Nat) : Int)), .val (.int .u8 ((0 : Nat) : Int)), .val (.int .u8 ((0 : Nat) : Int)), .val (.int .u8 ((0 : Nat) : Int)), .val (.int .u8 ((0 : Nat) : Int)), .val (.int .u8 ((0 : Nat) : Int)), .val (.int .u8 ((0 : Nat) : Int)), .val (.int .u8 ((0 : Nat) : Int)), .val (.int .u8 ((0 : Nat) : Int)), .val (.int .u8 ((0 : Nat) : Int)), .val (.int .u8 ((0 : Nat) : Int)), .val (.int .u8 ((0 : Nat) : Int)), .val (.int .u8 ((0 : Nat) : Int)), .val (.int .u8 ((0 : Nat) : Int)), .val (.int .u8 ((0 : Nat) : Int)), .val (.int .u8 ((0 : Nat) : Int)), .val (.int .u8 ((0 : Nat) : Int)), .val (.int .u8 ((0 : Nat) : Int))], .val (.slice none 0 0), .val (.int .i64 ((0 : Nat) : Int))])),
  ⟨none, .s (.store 22 (.t 18) (.t 117)), none⟩] [0, 4, 7, 14, 17, 18])
 QM))
 QT
def QX : Af := .seq (.seq (.ops [mv_ 105 14,
  po_ 106 (.lenV (.t 105)),
  po_ 107 (.bin 3 .gtr (.t 106) (ci_ 0))] [0, 4, 7, 14, 17, 107])
 (.cond (.t 107)
 (.skip)
 (.exit 8)))
 Rn
def Qv : Af := .seq (.seq (.ops [mv_ 142 17,
  mv_ 143 0,
  po_ 144 (.lenV (.t 143)),
  po_ 145 (.bin 3 .lss (.t 142) (.t 144))] [4, 145])
 (.cond (.t 145)
 (.seq (.ops [po_ 146 (.iface 36 (ci_ 80)),
   po_ 2 (.mov (.c (.pointer none))),
   mv_ 3 146] [2, 3])
  (.ret))
 (.skip)))
 (.seq (.ops [mv_ 147 4,
  mv_ 2 147,
  po_ 3 (.mov (.c .nilIface))] [2, 3])
 (.ret))
def QS : Af := .seq (.block 8 (.own 14 20 (.loop [0, 4, 7, 14, 17] QX)))
 Qv
def QN : Af := .seq (.ops [po_ 17 (.mov (ci_ 0))] [0, 4, 7, 14, 17])
 QS
def QG : Af := .seq (.seq (.ops [mv_ 88 0,
  po_ 89 (.lenV (.t 88)),
  po_ 90 (.mov (ci_ 0))] [0, 4, 7, 14, 88, 89, 90])
 QL)
 QN
def Rf : Af := .seq (.ops [po_ 14 (.mov (.c (.slice none 0 0)))] [0, 4, 7, 14])
 QG
def QC : Af := .seq (.seq (.ops [mv_ 55 0,
  po_ 56 (.lenV (.t 55)),
  po_ 57 (.mov (ci_ 0))] [0, 4, 7, 55, 56, 57])
 QZ)
 Rf
def QE : Af := .seq (.ops [so_ 54 (.mkm (.arr 20) none),
  mv_ 7 54] [0, 4, 7])
 QC
def Qr : Af := .seq (.seq (.ops [mv_ 40 0,
  po_ 41 (.lenV (.t 40)),
  po_ 42 (.bin 3 .gtr (.t 41) (ci_ 2000)),
  mv_ 43 42,
  ⟨some 44, .p (.mov (.t 4)), some ⟨43, false⟩⟩,
  ⟨some 45, .p (.nilc (.t 44)), some ⟨43, false⟩⟩,
  ⟨some 46, .p (.fieldA 0 0 (.t 45)), some ⟨43, false⟩⟩,
  ⟨some 47, .p (.load false 1 (.t 46)), some ⟨43, false⟩⟩,
  ⟨some 48, .p (.gen .lenM [.t 47]), some ⟨43, false⟩⟩,
  ⟨some 49, .p (.mov (.t 0)), some ⟨43, false⟩⟩,
  ⟨some 50, .p (.lenV (.t 49)), some ⟨43, false⟩⟩,
  ⟨some 51, .p (.bin 3 .lss (.t 48) (.t 50)), some ⟨43, false⟩⟩,
  po_ 52 (.pick (.t 43) (.c (.bool true)) (.t 51))] [0, 4, 52])
 (.cond (.t 52)
 (.seq (.ops [po_ 53 (.iface 36 (ci_ 80)),
   po_ 2 (.mov (.c (.pointer none))),
   mv_ 3 53] [2, 3])
  (.ret))
 (.skip)))
 QE
def Qn : Af := .seq (.seq (.ops [mv_ 26 0,
  po_ 27 (.lenV (.t 26)),
  po_ 28 (.mov (ci_ 0))] [0, 4, 26, 27, 28])
 Ti)
 Qr
def QP : Af := .seq (.ops [mv_ 21 0,
  po_ 22 (.lenV (.t 21)),
  so_ 23 (.mkm (.arr 20) (some (.t 22))),
  ⟨some 24, .p (.build [.val (.map none), .val (.map none)] [1, 1] [⟨0, .t 23⟩]), none⟩,
  so_ 25 (.box (.t 24)),
  mv_ 4 25] [0, 4])
 Qn
def YE : Af := .seq (.ops [po_ 2 (.mov (.c (.pointer none))),
  po_ 3 (.mov (.c .nilIface))] [0])
 QP
def Yy : List VR := [.tmp 2, .tmp 3]
theorem AbU : Tryd.f35.body.bind (trC Tryd.prog Tryd.f35.ntmps) = some (er YE) := by kernel_rfl
theorem Aco : trR Tryd.prog Tryd.f35.results.toList = some Yy := by kernel_rfl
def XL := Ac RZ.eq_1
def X6 := Ac Sv.eq_1
def X9 := Ac Td.eq_1
def Yg := Ac Ti.eq_1
def X0 := Ac SE.eq_1
def XQ := Ac TN.eq_1
def Yf := Ac Tz.eq_1
def Yv := Ac Tu.eq_1
def XG := Ac RX.eq_1
def Wv := Ac Qp.eq_1
def WQ := Ac QR.eq_1
def WC := Ac Rh.eq_1
def Xb := Ac QI.eq_1
def Xl := Ac Qo.eq_1
def Wx := Ac QZ.eq_1
def WY := Ac QD.eq_1
def WN := Ac QO.eq_1
def WL := Ac QF.eq_1
def Xv := Ac QL.eq_1
def V3 := Ac QA.eq_1
def Xz := Ac QW.eq_1
def W9 := Ac QJ.eq_1
def Xu := Ac QB.eq_1
def WE := Ac QH.eq_1
def Xe := Ac Qz.eq_1
def V6 := Ac QM.eq_1
def WF := Ac QT.eq_1
def Wu := Ac Rn.eq_1
def Wn := Ac QX.eq_1
def WS := Ac Qv.eq_1
def Xk := Ac QS.eq_1
def XA := Ac QN.eq_1
def WM := Ac QG.eq_1
def Xg := Ac Rf.eq_1
def VV := Ac QC.eq_1
def WI := Ac QE.eq_1
def Xa := Ac Qr.eq_1
def Xo := Ac Qn.eq_1
def XF := Ac QP.eq_1
def ZY := Ac YE.eq_1
theorem Z7 {K : TV → Prop} {e : Env} {H : List Ob} : res Yy e H K = res [.tmp 2, .tmp 3] e H K := Aa rfl
def AX := (And.intro (And.intro (And.intro (And.intro (And.intro (And.intro @XL @X6) (And.intro @X9 @Yg)) (And.intro (And.intro @X0 @XQ) (And.intro @Yf @Yv))) (And.intro (And.intro (And.intro @XG @Wv) (And.intro @WQ @WC)) (And.intro (And.intro @Xb @Xl) (And.intro @Wx @WY)))) (And.intro (And.intro (And.intro (And.intro @WN @WL) (And.intro @Xv @V3)) (And.intro (And.intro @Xz @W9) (And.intro @Xu @WE))) (And.intro (And.intro (And.intro @Xe @V6) (And.intro @WF @Wu)) (And.intro (And.intro @Wn @WS) (And.intro @Xk @XA))))) (And.intro (And.intro (And.intro (And.intro @WM @Xg) (And.intro @VV @WI)) (And.intro (And.intro @Xa @Xo) (And.intro @XF @ZY))) @Z7))
def Abv := ET 148 Tryd.func35 AbU Aco rfl




def Ws : Af := .seq (.seq (.ops [mv_ 7 3,
  mv_ 8 0,
  po_ 9 (.lenV (.t 8)),
  po_ 10 (.bin 3 .lss (.t 7) (.t 9))] [0, 3, 10])
 (.cond (.t 10)
 (.skip)
 (.exit 0)))
 (.seq (.block 1 (.seq (.ops [mv_ 13 0,
  mv_ 14 3,
  po_ 15 (.idxA 22 (.t 13) (.t 14)),
  po_ 16 (.fieldA 1 20 (.t 15)),
  po_ 17 (.load false 1 (.t 16)),
  po_ 18 (.lenV (.t 17)),
  po_ 19 (.bin 3 .gtr (.t 18) (ci_ 40))] [0, 3, 19])
 (.cond (.t 19)
 (.seq (.ops [po_ 2 (.mov (.c (.bool false)))] [2])
  (.ret))
 (.skip))))
 (.ops [mv_ 11 3,
  po_ 12 (.bin 3 .add (.t 11) (ci_ 1)),
  mv_ 3 12] [0, 3]))
def WG : Af := .block 0 (.loop [0, 3] Ws)
def WO : Af := .seq (.ops [po_ 2 (.mov (.c (.bool true)))] [2])
 (.ret)
def Xp : Af := .seq (.seq (.ops [po_ 3 (.mov (ci_ 0))] [0, 3])
 WG)
 WO
def V5 : Af := .seq (.seq (.ops [mv_ 4 0,
  po_ 5 (.lenV (.t 4)),
  po_ 6 (.bin 3 .gtr (.t 5) (ci_ 40))] [0, 6])
 (.cond (.t 6)
 (.seq (.ops [po_ 2 (.mov (.c (.bool false)))] [2])
  (.ret))
 (.skip)))
 Xp
def Aaw : Af := .seq (.ops [po_ 2 (.mov (.c (.bool false)))] [0])
 V5
def Aay : List VR := [.tmp 2]
theorem AeT : Tryd.f6.body.bind (trC Tryd.prog Tryd.f6.ntmps) = some (er Aaw) := by kernel_rfl
theorem Aez : trR Tryd.prog Tryd.f6.results.toList = some Aay := by kernel_rfl
def Zc := Ac Ws.eq_1
def ZH := Ac WG.eq_1
def ZA := Ac WO.eq_1
def Zw := Ac Xp.eq_1
def ZV := Ac V5.eq_1
def Acj := Ac Aaw.eq_1
theorem Acr {K : TV → Prop} {e : Env} {H : List Ob} : res Aay e H K = res [.tmp 2] e H K := Aa rfl
def Ol := (And.intro (And.intro (And.intro @Zc @ZH) (And.intro @ZA @Zw)) (And.intro (And.intro @ZV @Acj) @Acr))
def Adg := ET 20 Tryd.func6 AeT Aez rfl


def SH : Af := .seq (.seq (.ops [mv_ 5 4,
  mv_ 6 0,
  po_ 7 (.lenV (.t 6)),
  po_ 8 (.bin 3 .lss (.t 5) (.t 7))] [0, 3, 4, 8])
 (.cond (.t 8)
 (.skip)
 (.exit 0)))
 (.seq (.block 1 (.ops [mv_ 11 3,
  mv_ 12 0,
  mv_ 13 4,
  po_ 14 (.idxA 20 (.t 12) (.t 13)),
  po_ 15 (.load true 20 (.t 14)),
  ⟨some 16, .s (.bslice 20 1 (.arr 20 1 [.val (.int .u8 ((0 : Nat) : Int)), .val (.int .u8 ((0 : Nat) : Int)), .val (.int .u8 ((0 : Nat) : Int)), .val (.int .u8 ((0 : Nat) : Int)), .val (.int .u8 ((0 : Nat) : Int)), .val (.int .u8 ((0 : Nat) : Int)), .val (.int .u8 ((0 : Nat) : Int)), .val (.int .u8 ((0 : Nat) : Int)), .val (.int .u8 ((0 : Nat) : Int)), .val (.int .u8 ((0 : Nat) : Int)), .val (.int .u8 ((0 : Nat) : Int)), .val (.int .u8 ((0 : Nat) : Int)), .val (.int .u8 ((0 : Nat) : Int)), .val (.int .u8 ((0 : Nat) : Int)), .val (.int .u8 ((0 : Nat) : Int)), .val (.int .u8 ((0 : Nat) : Int)), .val (.int .u8 ((0 : Nat) : Int)), .val (.int .u8 ((0 : Nat) : Int)), .val (.int .u8 ((0 : Nat) : Int)), .val (.int .u8 ((0 : Nat) : Int))]) [⟨0, .t 15⟩]), none⟩,
  so_ 17 (.app 20 20 39 (.t 11) (.t 16)),
  mv_ 3 17] [0, 3, 4]))
 (.ops [mv_ 9 4,
  po_ 10 (.bin 3 .add (.t 9) (ci_ 1)),
  mv_ 4 10] [0, 3, 4]))
def SX : Af := .block 0 (.own 3 20 (.loop [0, 3, 4] SH))
def TP : Af := .seq (.ops [mv_ 18 3,
  mv_ 2 18] [2])
 (.ret)
def TC : Af := .seq (.seq (.ops [po_ 4 (.mov (ci_ 0))] [0, 3, 4])
 SX)
 TP
def SG : Af := .seq (.ops [po_ 3 (.mov (.c (.slice none 0 0)))] [0, 3])
 TC
def YF : Af := .seq (.ops [po_ 2 (.mov (.c (.slice none 0 0)))] [0])
 SG
def YL : List VR := [.tmp 2]
theorem Acs : Tryd.f9.body.bind (trC Tryd.prog Tryd.f9.ntmps) = some (er YF) := by kernel_rfl
theorem Ace : trR Tryd.prog Tryd.f9.results.toList = some YL := by kernel_rfl
def Yi := Ac SH.eq_1
def Yu := Ac SX.eq_1
def Ya := Ac TP.eq_1
def Yo := Ac TC.eq_1
def XT := Ac SG.eq_1
def Aag := Ac YF.eq_1
theorem Z5 {K : TV → Prop} {e : Env} {H : List Ob} : res YL e H K = res [.tmp 2] e H K := Aa rfl
def J3 := (And.intro (And.intro (And.intro @Yi @Yu) (And.intro @Ya @Yo)) (And.intro (And.intro @XT @Aag) @Z5))
def Wy := ET 19 Tryd.func9 Acs Ace rfl

end Go.Proofs.YtingoaihnlhiaaaDoor


namespace Go.Proofs.YtingoaihnlhiaaaDoor
open Go.RowKit
variable [Bc]
set_option linter.unusedSectionVars false
set_option linter.unusedVariables false
set_option linter.unusedSimpArgs false

/-- A node: its id, its parents, its time. -/
structure Nd where
 id : List UInt8
 ps : List (List UInt8)
 tm : Int
def idT (l : List UInt8) : TV := .arr 20 1 (l.map by8)
theorem AP {l : List UInt8} : idT l = .arr 20 1 (l.map by8) := by unfold idT; rfl
def ndT (n : Nd) : TV := .agg [idT n.id, .sl 20 (n.ps.map idT), i64 n.tm]
theorem Bf {n : Nd} : ndT n = .agg [.arr 20 1 (n.id.map by8), .sl 20 (n.ps.map idT), i64 n.tm] := by unfold ndT; rw [AP]
theorem Be {l : List UInt8} : AC (idT l) = 20 := by rw [AP]; rfl
/-- Where it lies; -1: nowhere. -/
def fnd (l : List Nd) (x : List UInt8) : Int := if ∃ n ∈ l, n.id = x then ((l.findIdx fun n => n.id == x : Nat) : Int) else -1
theorem Apn {l : List Nd} {x : List UInt8} {i : Nat} (hi : i < l.length) (h0 : ∀ k (hk : k < i), l[k].id ≠ x) (h : l[i].id = x) : fnd l x = i := by
 unfold fnd
 rw [if_pos ⟨l[i], List.getElem_mem hi, h⟩]
 congr 1
 rw [List.findIdx_eq hi]
 exact ⟨by simpa using h, fun k hk => by simpa using h0 k hk⟩
end Go.Proofs.YtingoaihnlhiaaaDoor


namespace Go.Proofs.YtingoaihnlhiaaaDoor
open Go.RowKit
variable [Bc]
set_option linter.unusedSectionVars false
set_option linter.unusedVariables false
set_option linter.unusedSimpArgs false

theorem PW {a b : TV} : (List.replicate 1 a).set 0 b = [b] := by simp
theorem LP {b : TV} : [b].take 1 = [b] := by simp
theorem EX {α : Type} {f : α → TV} {l : List α} {n : Nat} (h : n = l.length) : (l.map f).take n = l.map f := by rw [List.take_of_length_le (by simp [h])]
theorem Zj {l : List (List UInt8)} {x : List UInt8} : l.map idT ++ [TV.arr 20 1 (x.map by8)] = (l ++ [x]).map idT := by simp [idT]
theorem KW {l : List UInt8} : lays (idT l) = true := by rw [AP]; rfl
theorem DU {l : List UInt8} : EL (idT l) = true := by rw [AP]; rfl
theorem Acy {l : List (List UInt8)} {x : List UInt8} : l.map idT ++ [idT x] = (l ++ [x]).map idT := by simp
theorem Ci {l : List UInt8} : XH (idT l) = true := by rw [AP]; rfl
/-- few: no more than anything is claimed of? -/
def Aig (l : List Nd) : Bool := decide (l.length ≤ 40) && l.all fun n => decide (n.ps.length ≤ 40)
theorem A3o (l : List Nd) : Gh Tryd.prog 6 [.sl 22 (l.map ndT)] (fun r => r = tb (Aig l)) := by
 refine Aq.toPureV (Adg (by simp) ?_)
 by_cases hl : 40 < l.length
 ·have : Aig l = false := by unfold Aig; simp; omega
  rw [this]
  simp -dsimp (disch := first | assumption | omega) only [↓Ah, Ae, Ag, Ai, eq_self, forall_const, Nat.reduceLT, Nat.reduceEqDiff, Nat.reduceSub, Nat.reduceMul, Nat.reduceMod, Nat.reduceDiv, Nat.reducePow, UInt8.reduceToNat, Int.reduceEq, Int.reduceLT, Int.reduceLE, ↓reduceIte, Nat.reduceAdd, Int.reduceToNat, reduceCtorEq, Nat.reduceLeDiff, ↓Ol]
 ·simp -dsimp (disch := first | assumption | omega) only [↓Ah, Ae, Ag, Ai, eq_self, forall_const, Nat.reduceLT, Nat.reduceEqDiff, Nat.reduceSub, Nat.reduceMul, Nat.reduceMod, Nat.reduceDiv, Nat.reducePow, UInt8.reduceToNat, Int.reduceEq, Int.reduceLT, Int.reduceLE, ↓reduceIte, Nat.reduceAdd, Int.reduceToNat, reduceCtorEq, Nat.reduceLeDiff, ↓Ol]
  refine BN (fun m e H => ∃ i : Nat, m = l.length - i ∧ i ≤ l.length ∧ (∀ n ∈ l.take i, n.ps.length ≤ 40) ∧ e = [(0, .sl 22 (l.map ndT)), (3, i64 (i : Int))] ∧ H = []) l.length ?_ ?_
  ·exact ⟨0, by simp, by simp, by simp, rfl, rfl⟩
  ·rintro m e H ⟨i, rfl, hi, h0, rfl, rfl⟩
   by_cases h : i < l.length
   ·have hg : l[i]? = some l[i] := List.getElem?_eq_getElem h
    by_cases hp : 40 < l[i].ps.length
    ·have : Aig l = false := by
      unfold Aig
      rw [Bool.and_eq_false_iff]; right
      rw [List.all_eq_false]
      exact ⟨l[i], List.getElem_mem h, by simpa using hp⟩
     rw [this]
     simp -dsimp (disch := first | assumption | omega) only [↓Ah, Ae, Ag, Ai, eq_self, forall_const, Nat.reduceLT, Nat.reduceEqDiff, Nat.reduceSub, Nat.reduceMul, Nat.reduceMod, Nat.reduceDiv, Nat.reducePow, UInt8.reduceToNat, Int.reduceEq, Int.reduceLT, Int.reduceLE, ↓reduceIte, Nat.reduceAdd, Int.reduceToNat, reduceCtorEq, Nat.reduceLeDiff, ↓Ol, hg, Bf]
    ·simp -dsimp (disch := first | assumption | omega) only [↓Ah, Ae, Ag, Ai, eq_self, forall_const, Nat.reduceLT, Nat.reduceEqDiff, Nat.reduceSub, Nat.reduceMul, Nat.reduceMod, Nat.reduceDiv, Nat.reducePow, UInt8.reduceToNat, Int.reduceEq, Int.reduceLT, Int.reduceLE, ↓reduceIte, Nat.reduceAdd, Int.reduceToNat, reduceCtorEq, Nat.reduceLeDiff, ↓Ol, hg, Bf]
     refine AY (l.length - (i + 1)) (by omega) (by simp) ⟨i + 1, rfl, by omega, fun n hn => ?_, rfl, rfl⟩
     rw [List.take_succ_eq_append_getElem h, List.mem_append, List.mem_singleton] at hn
     rcases hn with hn | rfl
     ·exact h0 n hn
     ·omega
   ·have hi2 : i = l.length := by omega
    rw [hi2, List.take_length] at h0
    have : Aig l = true := by
     unfold Aig
     rw [Bool.and_eq_true, List.all_eq_true]
     exact ⟨by simp; omega, fun n hn => by simpa using h0 n hn⟩
    rw [this]
    simp -dsimp (disch := first | assumption | omega) only [↓Ah, Ae, Ag, Ai, eq_self, forall_const, Nat.reduceLT, Nat.reduceEqDiff, Nat.reduceSub, Nat.reduceMul, Nat.reduceMod, Nat.reduceDiv, Nat.reducePow, UInt8.reduceToNat, Int.reduceEq, Int.reduceLT, Int.reduceLE, ↓reduceIte, Nat.reduceAdd, Int.reduceToNat, reduceCtorEq, Nat.reduceLeDiff, ↓Ol]
theorem AqJ (l : List (List UInt8)) (hl : l.length ≤ 1000) : Gh Tryd.prog 9 [.sl 20 (l.map idT)] (fun r => r = .sl 20 (l.map idT)) := by
 refine Aq.toPureV (Wy (by simp) ?_)
 simp -dsimp (disch := first | assumption | omega) only [↓Ah, Ae, Ag, Ai, eq_self, forall_const, Nat.reduceLT, Nat.reduceEqDiff, Nat.reduceSub, Nat.reduceMul, Nat.reduceMod, Nat.reduceDiv, Nat.reducePow, UInt8.reduceToNat, Int.reduceEq, Int.reduceLT, Int.reduceLE, ↓reduceIte, Nat.reduceAdd, Int.reduceToNat, reduceCtorEq, Nat.reduceLeDiff, ↓J3]
 refine BN (fun m e H => ∃ i v : Nat, m = l.length - i ∧ i ≤ l.length ∧ e = [(0, .sl 20 (l.map idT)), (3, .os 20 0 v [] 0 i i), (4, i64 (i : Int))] ∧ H = [.obj v (.arr i 20 ((l.take i).map idT))]) l.length ?_ ?_
 ·exact ⟨0, 0, by simp, by simp, rfl, by simp⟩
 ·rintro m e H ⟨i, v, rfl, hi, rfl, rfl⟩
  by_cases h : i < l.length
  ·have hg : l[i]? = some l[i] := List.getElem?_eq_getElem h
   have hti : (l.take i).length = i := by simp; omega
   have htk : ((l.take i).map idT).take i = (l.take i).map idT := EX hti.symm
   generalize hr : l.take i = r at *
   simp -dsimp (disch := first | assumption | omega) only [↓Ah, Ae, Ag, Ai, eq_self, forall_const, Nat.reduceLT, Nat.reduceEqDiff, Nat.reduceSub, Nat.reduceMul, Nat.reduceMod, Nat.reduceDiv, Nat.reducePow, UInt8.reduceToNat, Int.reduceEq, Int.reduceLT, Int.reduceLE, ↓reduceIte, Nat.reduceAdd, Int.reduceToNat, reduceCtorEq, Nat.reduceLeDiff, ↓J3, hg, Ci, Be, PW, LP, htk, hti, KW, DU, Acy]
   refine PS (l.length - (i + 1)) 1 (by omega) (by omega) rfl rfl ⟨i + 1, v + 1, rfl, by omega, rfl, ?_⟩
   rw [List.take_succ_eq_append_getElem h, hr]; rfl
  ·have hi2 : i = l.length := by omega
   subst hi2
   rw [List.take_length]
   have htk : (l.map idT).take l.length = l.map idT := EX rfl
   simp -dsimp (disch := first | assumption | omega) only [↓Ah, Ae, Ag, Ai, eq_self, forall_const, Nat.reduceLT, Nat.reduceEqDiff, Nat.reduceSub, Nat.reduceMul, Nat.reduceMod, Nat.reduceDiv, Nat.reducePow, UInt8.reduceToNat, Int.reduceEq, Int.reduceLT, Int.reduceLE, ↓reduceIte, Nat.reduceAdd, Int.reduceToNat, reduceCtorEq, Nat.reduceLeDiff, ↓J3, htk]
end Go.Proofs.YtingoaihnlhiaaaDoor


namespace Go.Proofs.YtingoaihnlhiaaaDoor
open Go.RowKit
variable [Bc]
set_option linter.unusedSectionVars false
set_option linter.unusedVariables false
set_option autoImplicit false

def AL (l : List Nd) : List (List UInt8) := l.map (·.id)
/-- The parents of an id. -/
def pOf (l : List Nd) (x : List UInt8) : List (List UInt8) := ((l.find? fun n => n.id == x).map (·.ps)).getD []
/-- What some reach. -/
inductive Rc (l : List Nd) (S : List (List UInt8)) : List UInt8 → Prop
 | base {x : List UInt8} : x ∈ S → Rc l S x
 | step {x y : List UInt8} : Rc l S x → y ∈ pOf l x → Rc l S y
/-- Ids differ, and parents are there. -/
structure Af6 (l : List Nd) : Prop where
 nodup : (AL l).Nodup
 there : ∀ n ∈ l, ∀ p ∈ n.ps, p ∈ AL l
def Cyc (l : List Nd) : Prop := ∃ n ∈ l, Rc l n.ps n.id
def GOk (l : List Nd) : Prop := Af6 l ∧ ¬ Cyc l

theorem VL {l : List Nd} {n : Nd} (h : n ∈ l) : n.id ∈ AL l := List.mem_map.2 ⟨n, h, rfl⟩
theorem Xm {l : List Nd} (hn : (AL l).Nodup) {n : Nd} (h : n ∈ l) : pOf l n.id = n.ps := by
 unfold pOf
 have : l.find? (fun m => m.id == n.id) = some n := by
  induction l with
  | nil => simp at h
  | cons a l ih =>
   rw [AL, List.map_cons, List.nodup_cons] at hn
   rw [List.find?_cons]
   rcases List.mem_cons.1 h with rfl | h
   ·simp
   ·have hne : a.id ≠ n.id := fun e => hn.1 (e ▸ List.mem_map.2 ⟨n, h, rfl⟩)
    have : (a.id == n.id) = false := by simpa using hne
    rw [this]
    exact ih hn.2 h
 rw [this]; rfl
theorem Abk {l : List Nd} {x y : List UInt8} (h : y ∈ pOf l x) : ∃ n ∈ l, n.id = x ∧ y ∈ n.ps := by
 unfold pOf at h
 cases hf : l.find? (fun m => m.id == x) with
 | none => rw [hf] at h; simp at h
 | some n =>
  rw [hf] at h
  exact ⟨n, List.mem_of_find?_eq_some hf, by have := List.find?_some hf; simpa using this, by simpa using h⟩
theorem Rc.mono {l : List Nd} {S T : List (List UInt8)} (h : ∀ x ∈ S, Rc l T x) {x : List UInt8} (hx : Rc l S x) : Rc l T x := by
 induction hx with
 | base h1 => exact h _ h1
 | step _ h1 ih => exact .step ih h1
theorem Rc.there {l : List Nd} (hv : Af6 l) {S : List (List UInt8)} (hS : ∀ x ∈ S, x ∈ AL l) {x : List UInt8} (h : Rc l S x) : x ∈ AL l := by
 cases h with
 | base h => exact hS _ h
 | step h1 h2 => obtain ⟨n, hn, _, hp⟩ := Abk h2; exact hv.there n hn _ hp

/-- Ids one behind the other, each behind all that have it aS a parent. -/
inductive Ord (l : List Nd) : List (List UInt8) → Prop
 | nil : Ord l []
 | snoc {d : List (List UInt8)} {x : List UInt8} : Ord l d → ¬ x ∈ d → x ∈ AL l → (∀ n ∈ l, x ∈ n.ps → n.id ∈ d) → Ord l (d ++ [x])
theorem Ord.kids {l : List Nd} {d : List (List UInt8)} (h : Ord l d) : ∀ {x : List UInt8}, x ∈ d → ∀ n ∈ l, x ∈ n.ps → n.id ∈ d := by
 induction h with
 | nil => intro x hx; simp at hx
 | snoc h1 h2 h3 h4 ih =>
  intro x hx n hn hp
  rcases List.mem_append.1 hx with hx | hx
  ·exact List.mem_append_left _ (ih hx n hn hp)
  ·rw [List.mem_singleton] at hx; subst hx
   exact List.mem_append_left _ (h4 n hn hp)
theorem Ord.nodup {l : List Nd} {d : List (List UInt8)} (h : Ord l d) : d.Nodup := by
 induction h with
 | nil => simp
 | snoc h1 h2 h3 h4 ih =>
  rw [List.nodup_append]
  exact ⟨ih, by simp, fun a ha b hb => by rw [List.mem_singleton] at hb; subst hb; exact fun e => h2 (e ▸ ha)⟩
theorem Ord.sub {l : List Nd} {d : List (List UInt8)} (h : Ord l d) : ∀ x ∈ d, x ∈ AL l := by
 induction h with
 | nil => simp
 | snoc h1 h2 h3 h4 ih =>
  intro x hx
  rcases List.mem_append.1 hx with hx | hx
  ·exact ih x hx
  ·rw [List.mem_singleton] at hx; subst hx; exact h3
theorem Ord.back {l : List Nd} {d : List (List UInt8)} (h : Ord l d) {n : Nd} (hn : n ∈ l) {x : List UInt8} (hr : Rc l n.ps x) : x ∈ d → n.id ∈ d := by
 induction hr with
 | base h1 => exact fun hx => h.kids hx n hn h1
 | step h1 h2 ih =>
  intro hx
  obtain ⟨m, hm, hme, hp⟩ := Abk h2
  exact ih (hme ▸ h.kids hx m hm hp)
theorem Ord.acyc {l : List Nd} {d : List (List UInt8)} (h : Ord l d) : ∀ {n : Nd}, n ∈ l → n.id ∈ d → ¬ Rc l n.ps n.id := by
 induction h with
 | nil => intro n _ h; simp at h
 | snoc h1 h2 h3 h4 ih =>
  intro n hn hx hr
  rcases List.mem_append.1 hx with hx | hx
  ·exact ih hn hx hr
  ·rw [List.mem_singleton] at hx
   apply h2
   rw [← hx]
   cases hr with
   | base h5 => exact h4 n hn (hx ▸ h5)
   | step h5 h6 =>
    obtain ⟨m, hm, hme, hp⟩ := Abk h6
    have hk := h4 m hm (hx ▸ hp)
    rw [hme] at hk
    exact h1.back hn h5 hk
theorem Gf {α : Type} [BEq α] [LawfulBEq α] : ∀ {d e : List α}, d.Nodup → (∀ x ∈ d, x ∈ e) → d.length ≤ e.length
 | [], e, _, _ => by simp
 | x :: d, e, h, hs => by
  rw [List.nodup_cons] at h
  have hx : x ∈ e := hs x (by simp)
  have := Gf (d := d) (e := e.erase x) h.2 fun y hy => (List.mem_erase_of_ne (fun (q : y = x) => h.1 (q ▸ hy))).2 (hs y (by simp [hy]))
  rw [List.length_erase_of_mem hx] at this
  have := List.length_pos_of_mem hx
  rw [List.length_cons]; omega
theorem Ae4 {α : Type} [BEq α] [LawfulBEq α] {d e : List α} (h : d.Nodup) (hs : ∀ x ∈ d, x ∈ e) (hl : e.length ≤ d.length) {x : α} (hx : x ∈ e) : x ∈ d := by
 refine Classical.byContradiction fun hd => ?_
 have := Gf (d := x :: d) (e := e) (List.nodup_cons.2 ⟨hd, h⟩) fun y hy => by
  rcases List.mem_cons.1 hy with rfl | hy
  ·exact hx
  ·exact hs y hy
 rw [List.length_cons] at this; omega
theorem Ord.le {l : List Nd} {d : List (List UInt8)} (h : Ord l d) : d.length ≤ l.length := by
 have := Gf h.nodup h.sub
 rwa [AL, List.length_map] at this

theorem Zg {α : Type} {p q : α → Bool} : ∀ {l : List α}, (∀ x ∈ l, q x = true → p x = true) → (∃ x ∈ l, p x = true ∧ q x = false) → (l.filter q).length < (l.filter p).length
 | [], _, h => by obtain ⟨x, hx, _⟩ := h; simp at hx
 | a :: l, h1, h2 => by
  have hle : ∀ {l : List α}, (∀ x ∈ l, q x = true → p x = true) → (l.filter q).length ≤ (l.filter p).length := by
   intro l
   induction l with
   | nil => intro _; simp
   | cons b l ih =>
    intro h
    have := ih fun x hx => h x (by simp [hx])
    rw [List.filter_cons, List.filter_cons]
    cases hq : q b with
    | false => cases hp : p b <;> simp <;> omega
    | true => rw [h b (by simp) hq]; simp; omega
  rw [List.filter_cons, List.filter_cons]
  obtain ⟨x, hx, hp, hq⟩ := h2
  rcases List.mem_cons.1 hx with rfl | hx
  ·rw [hp, hq]
   have := hle (l := l) fun y hy => h1 y (List.mem_cons_of_mem _ hy)
   simp; omega
  ·have := Zg (l := l) (fun y hy => h1 y (by simp [hy])) ⟨x, hx, hp, hq⟩
   cases hq : q a with
   | false => cases hp : p a <;> simp <;> omega
   | true => rw [h1 a (by simp) hq]; simp; omega
/-- If each of some has a child among them, the graph goes round. -/
theorem Alt {l : List Nd} (hn : (AL l).Nodup) {U : List UInt8 → Prop} (hU : ∀ y, U y → ∃ n ∈ l, U n.id ∧ y ∈ n.ps) {y : List UInt8} (hy : U y) (hyl : y ∈ AL l) : Cyc l := by
 refine Classical.byContradiction fun hc => ?_
 have key : ∀ (k : Nat) (n : Nd), n ∈ l → U n.id → ((AL l).filter fun x => !@decide (Rc l n.ps x) (Classical.propDecidable _)).length ≤ k → False := by
  intro k
  induction k with
  | zero =>
   intro n hnl hu hk
   have h0 := List.length_eq_zero_iff.1 (Nat.le_zero.1 hk)
   have : n.id ∈ ((AL l).filter fun x => !@decide (Rc l n.ps x) (Classical.propDecidable _)) := by
    rw [List.mem_filter]
    refine ⟨VL hnl, ?_⟩
    rw [Bool.not_eq_true', @decide_eq_false_iff_not _ (Classical.propDecidable _)]
    exact fun h => hc ⟨n, hnl, h⟩
   rw [h0] at this; simp at this
  | succ k ih =>
   intro n hnl hu hk
   obtain ⟨m, hm, hmu, hp⟩ := hU _ hu
   refine ih m hm hmu ?_
   have : ((AL l).filter fun x => !@decide (Rc l m.ps x) (Classical.propDecidable _)).length < ((AL l).filter fun x => !@decide (Rc l n.ps x) (Classical.propDecidable _)).length := by
    apply Zg
    ·intro x _ h
     rw [Bool.not_eq_true', @decide_eq_false_iff_not _ (Classical.propDecidable _)] at h ⊢
     refine fun hr => h (Rc.mono (fun z hz => ?_) hr)
     exact .step (.base hp) (by rw [Xm hn hnl]; exact hz)
    ·refine ⟨n.id, VL hnl, ?_, ?_⟩
     ·rw [Bool.not_eq_true', @decide_eq_false_iff_not _ (Classical.propDecidable _)]
      exact fun h => hc ⟨n, hnl, h⟩
     ·rw [Bool.not_eq_false', @decide_eq_true_eq _ (Classical.propDecidable _)]
      exact .base hp
   omega
 obtain ⟨n, hnl, rfl⟩ := List.mem_map.1 hyl
 exact key _ n hnl hy (Nat.le_refl _)

/-- How often those that are not done name one aS a parent. -/
def kids (l : List Nd) (d : List (List UInt8)) (x : List UInt8) : Nat := ((l.filter fun n => !d.contains n.id).flatMap (·.ps)).count x
theorem AfN {l : List Nd} {d : List (List UInt8)} {x : List UInt8} (h : kids l d x = 0) : ∀ n ∈ l, x ∈ n.ps → n.id ∈ d := by
 intro n hn hx
 unfold kids at h
 rw [List.count_eq_zero] at h
 refine Classical.byContradiction fun hd => h ?_
 exact List.mem_flatMap.2 ⟨n, List.mem_filter.2 ⟨hn, by simpa using hd⟩, hx⟩
theorem Aij {l : List Nd} {d : List (List UInt8)} {x : List UInt8} (h : kids l d x ≠ 0) : ∃ n ∈ l, ¬ n.id ∈ d ∧ x ∈ n.ps := by
 unfold kids at h
 have := List.count_pos_iff.1 (Nat.pos_of_ne_zero h)
 obtain ⟨n, hn, hx⟩ := List.mem_flatMap.1 this
 obtain ⟨h1, h2⟩ := List.mem_filter.1 hn
 exact ⟨n, h1, by simpa using h2, hx⟩
theorem Abz {l : List Nd} (hn : (AL l).Nodup) {d : List (List UInt8)} {n : Nd} (hnl : n ∈ l) (hd : ¬ n.id ∈ d) (x : List UInt8) : kids l d x = kids l (d ++ [n.id]) x + n.ps.count x := by
 unfold kids
 induction l with
 | nil => simp at hnl
 | cons a l ih =>
  rw [AL, List.map_cons, List.nodup_cons] at hn
  rw [List.filter_cons, List.filter_cons]
  rcases List.mem_cons.1 hnl with rfl | h
  ·have e1 : (!d.contains n.id) = true := by simpa using hd
   have e2 : (!(d ++ [n.id]).contains n.id) = false := by simp
   rw [e1, e2]
   have e3 : l.filter (fun m => !(d ++ [n.id]).contains m.id) = l.filter fun m => !d.contains m.id := by
    apply List.filter_congr
    intro m hm
    have : m.id ≠ n.id := fun e => hn.1 (e ▸ List.mem_map.2 ⟨m, hm, rfl⟩)
    simp [this]
   rw [e3]
   simp only [if_true, List.flatMap_cons, List.count_append]
   simp; omega
  ·have hne : a.id ≠ n.id := fun e => hn.1 (e ▸ List.mem_map.2 ⟨n, h, rfl⟩)
   have e1 : (!(d ++ [n.id]).contains a.id) = !d.contains a.id := by simp [hne]
   rw [e1]
   have := ih hn.2 h
   cases (!d.contains a.id)
   ·exact this
   ·simp only [if_true, List.flatMap_cons, List.count_append]; omega
/-- How it stands between two nodes that come free: done; free; what is left of each. -/
structure Ad8 (l : List Nd) (d fr : List (List UInt8)) (f : List UInt8 → Nat) : Prop where
 ord : Ord l d
 nodup : fr.Nodup
 free : ∀ y, y ∈ fr ↔ (y ∈ AL l ∧ ¬ y ∈ d ∧ f y = 0)
 zero : ∀ y ∈ d, f y = 0
theorem Ad8.take {l : List Nd} (hv : Af6 l) {d fr : List (List UInt8)} {n : Nd} (hnl : n ∈ l) (h : Ad8 l d (n.id :: fr) (kids l d)) : Ad8 l (d ++ [n.id]) fr (fun y => kids l (d ++ [n.id]) y + n.ps.count y) := by
 obtain ⟨h1, h2, h3⟩ := (h.free n.id).1 (by simp)
 have hnd := List.nodup_cons.1 h.nodup
 refine ⟨.snoc h.ord h2 h1 (AfN h3), hnd.2, fun y => ?_, fun y hy => ?_⟩
 ·rw [← Abz hv.nodup hnl h2]
  have := h.free y
  constructor
  ·intro hy
   obtain ⟨k1, k2, k3⟩ := this.1 (by simp [hy])
   refine ⟨k1, fun hm => ?_, k3⟩
   rcases List.mem_append.1 hm with hm | hm
   ·exact k2 hm
   ·rw [List.mem_singleton] at hm; subst hm; exact hnd.1 hy
  ·rintro ⟨k1, k2, k3⟩
   have hm := this.2 ⟨k1, fun hm => k2 (by simp [hm]), k3⟩
   rcases List.mem_cons.1 hm with e | hm
   ·exact absurd (by simp [e]) k2
   ·exact hm
 ·show kids l (d ++ [n.id]) y + n.ps.count y = 0
  rw [← Abz hv.nodup hnl h2]
  rcases List.mem_append.1 hy with hy | hy
  ·exact h.zero y hy
  ·rw [List.mem_singleton] at hy; subst hy; exact h3
theorem Ad8.congr {l : List Nd} {d fr : List (List UInt8)} {f g : List UInt8 → Nat} (h : Ad8 l d fr f) (e : ∀ y, g y = f y) : Ad8 l d fr g := by
 have : g = f := funext e
 rw [this]; exact h
/-- A parent, once. -/
theorem Ad8.drop {l : List Nd} {d fr : List (List UInt8)} {f : List UInt8 → Nat} (h : Ad8 l d fr f) {p : List UInt8} (hp : p ∈ AL l) (hf : f p ≠ 0) : Ad8 l d (if f p = 1 then fr ++ [p] else fr) (fun y => if p = y then f p - 1 else f y) := by
 have hpd : ¬ p ∈ d := fun hm => hf (h.zero p hm)
 have hpf : ¬ p ∈ fr := fun hm => hf ((h.free p).1 hm).2.2
 refine ⟨h.ord, ?_, fun y => ?_, fun y hy => ?_⟩
 ·split
  ·rw [List.nodup_append]
   exact ⟨h.nodup, by simp, fun a ha b hb => by rw [List.mem_singleton] at hb; subst hb; exact fun e => hpf (e ▸ ha)⟩
  ·exact h.nodup
 ·have := h.free y
  by_cases hy : p = y
  ·subst hy
   simp only [if_true]
   split
   ·rename_i h1; simp [hp, hpd, h1]
   ·rename_i h1
    constructor
    ·exact fun hm => absurd hm hpf
    ·rintro ⟨_, _, h2⟩; omega
  ·simp only [if_neg hy]
   split
   ·rw [← this, List.mem_append, List.mem_singleton]
    exact ⟨fun hm => hm.resolve_right fun e => hy e.symm, Or.inl⟩
   ·exact this
 ·have hne : p ≠ y := fun e => hpd (e ▸ hy)
  show (if p = y then f p - 1 else f y) = 0
  rw [if_neg hne]; exact h.zero y hy
theorem Ad8.none {l : List Nd} (hv : Af6 l) {d : List (List UInt8)} (h : Ad8 l d [] (kids l d)) : d.length = l.length ↔ ¬ Cyc l := by
 constructor
 ·rintro he ⟨n, hn, hr⟩
  exact h.ord.acyc hn (Ae4 h.ord.nodup h.ord.sub (by rw [he, AL, List.length_map]; exact Nat.le_refl _) (VL hn)) hr
 ·intro hc
  refine Nat.le_antisymm h.ord.le ?_
  have : ∀ y ∈ AL l, y ∈ d := by
   intro y hy
   refine Classical.byContradiction fun hd => hc (Alt hv.nodup (U := fun y => y ∈ AL l ∧ ¬ y ∈ d) ?_ ⟨hy, hd⟩ hy)
   rintro z ⟨hz1, hz2⟩
   obtain ⟨n, hn, h1, h2⟩ := Aij (l := l) (d := d) (x := z) fun e => by
    have := (h.free z).2 ⟨hz1, hz2, e⟩
    simp at this
   exact ⟨n, hn, ⟨VL hn, h1⟩, h2⟩
  have := Gf hv.nodup this
  rwa [AL, List.length_map] at this
end Go.Proofs.YtingoaihnlhiaaaDoor


namespace Go.Proofs.YtingoaihnlhiaaaDoor
open Go.RowKit
variable [Bc]
set_option linter.unusedSectionVars false
set_option linter.unusedVariables false
set_option linter.unusedSimpArgs false

theorem AaG {l : List Nd} (hn : (AL l).Nodup) {i : Nat} (h : i < l.length) : fnd l l[i].id = i := by
 refine Apn h (fun k hk e => ?_) rfl
 have h1 : (AL l)[k]? = some l[k].id := by rw [AL, List.getElem?_map, List.getElem?_eq_getElem (by omega)]; rfl
 have h2 : (AL l)[i]? = some l[i].id := by rw [AL, List.getElem?_map, List.getElem?_eq_getElem h]; rfl
 have := (List.getElem?_inj (i := k) (j := i) (by rw [AL, List.length_map]; omega) hn).1 (by rw [h1, h2, e])
 omega

noncomputable def A2W (l : List Nd) (S : List (List UInt8)) : List Bool := l.map fun n => @decide (Rc l S n.id) (Classical.propDecidable _)

/-- Aos that are right so far. -/
structure Aos (l : List Nd) (S : List (List UInt8)) (m : List Bool) : Prop where
 len : m.length = l.length
 sound : ∀ i (h : i < l.length), m[i]? = some true → Rc l S l[i].id
theorem BR {l : List UInt8} : BP (idT l) = false := by rw [AP]; rfl

end Go.Proofs.YtingoaihnlhiaaaDoor


namespace Go.Proofs.YtingoaihnlhiaaaDoor
open Go.RowKit
variable [Bc]
set_option linter.unusedSectionVars false
set_option linter.unusedVariables false
set_option autoImplicit false

theorem Rc.trans {l : List Nd} {S : List (List UInt8)} {x y : List UInt8} (h : Rc l S x) (k : Rc l [x] y) : Rc l S y := Rc.mono (fun z hz => by rw [List.mem_singleton.1 hz]; exact h) k
/-- What is reached is reached from one of them. -/
theorem Rc.one {l : List Nd} {S : List (List UInt8)} {x : List UInt8} (h : Rc l S x) : ∃ s ∈ S, Rc l [s] x := by
 induction h with
 | base h1 => exact ⟨_, h1, .base (by simp)⟩
 | step h1 h2 ih => obtain ⟨s, hs, hr⟩ := ih; exact ⟨s, hs, .step hr h2⟩
/-- From one: it itself, or what its parents reach. -/
theorem Rc.first {l : List Nd} {s x : List UInt8} (h : Rc l [s] x) : x = s ∨ Rc l (pOf l s) x := by
 induction h with
 | base h1 => exact .inl (List.mem_singleton.1 h1)
 | step h1 h2 ih =>
  rcases ih with rfl | ih
  ·exact .inr (.base h2)
  ·exact .inr (.step ih h2)
theorem Rc.up {l : List Nd} {s x : List UInt8} (h : Rc l (pOf l s) x) : Rc l [s] x := Rc.mono (fun y hy => .step (.base (by simp)) hy) h
/-- What the parents of some reach: of these it is what another one reaches. -/
theorem Ab5 {l : List Nd} (hok : GOk l) {D : List (List UInt8)} (hD : ∀ x ∈ D, x ∈ AL l) {s : List UInt8} (hs : s ∈ D) : Rc l (D.flatMap (pOf l)) s ↔ ∃ k ∈ D, k ≠ s ∧ Rc l [k] s := by
 constructor
 ·intro h
  obtain ⟨p, hp, hr⟩ := Rc.one h
  obtain ⟨k, hk, hpk⟩ := List.mem_flatMap.1 hp
  have h1 : Rc l (pOf l k) s := Rc.mono (fun z hz => by rw [List.mem_singleton.1 hz]; exact .base hpk) hr
  refine ⟨k, hk, ?_, Rc.up h1⟩
  rintro rfl
  obtain ⟨n, hn, rfl⟩ := List.mem_map.1 (hD k hk)
  rw [Xm hok.1.nodup hn] at h1
  exact hok.2 ⟨n, hn, h1⟩
 ·rintro ⟨k, hk, hne, h⟩
  rcases Rc.first h with e | h
  ·exact absurd e.symm hne
  ·exact Rc.mono (fun z hz => .base (List.mem_flatMap.2 ⟨k, hk, hz⟩)) h

/-- A SEARCH: what was seen, and what is still to be seen. -/
structure YM (l : List Nd) (S seen todo : List (List UInt8)) : Prop where
 hseen : ∀ x ∈ seen, Rc l S x
 htodo : ∀ x ∈ todo, Rc l S x
 all : ∀ x ∈ S, x ∈ seen ∨ x ∈ todo
 next : ∀ x ∈ seen, ∀ y ∈ pOf l x, y ∈ seen ∨ y ∈ todo
 nodup : seen.Nodup
theorem YM.start {l : List Nd} {S : List (List UInt8)} : YM l S [] S := ⟨by simp, fun x h => .base h, fun x h => .inr h, by simp, List.nodup_nil⟩
theorem YM.skip {l : List Nd} {S seen todo : List (List UInt8)} {x : List UInt8} (h : YM l S seen (todo ++ [x])) (hx : x ∈ seen) : YM l S seen todo :=
 ⟨h.hseen, fun y hy => h.htodo y (List.mem_append_left _ hy), fun y hy => by
  rcases h.all y hy with k | k
  ·exact .inl k
  ·rcases List.mem_append.1 k with k | k
   ·exact .inr k
   ·rw [List.mem_singleton.1 k]; exact .inl hx, fun z hz y hy => by
  rcases h.next z hz y hy with k | k
  ·exact .inl k
  ·rcases List.mem_append.1 k with k | k
   ·exact .inr k
   ·rw [List.mem_singleton.1 k]; exact .inl hx, h.nodup⟩
theorem YM.take {l : List Nd} {S seen todo : List (List UInt8)} {x : List UInt8} (h : YM l S seen (todo ++ [x])) (hx : ¬ x ∈ seen) : YM l S (seen ++ [x]) (todo ++ pOf l x) :=
 ⟨fun y hy => by
  rcases List.mem_append.1 hy with k | k
  ·exact h.hseen y k
  ·rw [List.mem_singleton.1 k]; exact h.htodo x (by simp), fun y hy => by
  rcases List.mem_append.1 hy with k | k
  ·exact h.htodo y (List.mem_append_left _ k)
  ·exact .step (h.htodo x (by simp)) k, fun y hy => by
  rcases h.all y hy with k | k
  ·exact .inl (List.mem_append_left _ k)
  ·rcases List.mem_append.1 k with k | k
   ·exact .inr (List.mem_append_left _ k)
   ·exact .inl (List.mem_append_right _ k), fun z hz y hy => by
  rcases List.mem_append.1 hz with hz | hz
  ·rcases h.next z hz y hy with k | k
   ·exact .inl (List.mem_append_left _ k)
   ·rcases List.mem_append.1 k with k | k
    ·exact .inr (List.mem_append_left _ k)
    ·exact .inl (List.mem_append_right _ k)
  ·rw [List.mem_singleton.1 hz] at hy
   exact .inr (List.mem_append_right _ hy), by
  rw [List.nodup_append]
  exact ⟨h.nodup, by simp, fun a ha b hb e => by rw [List.mem_singleton] at hb; subst hb; subst e; exact hx ha⟩⟩
theorem YM.done {l : List Nd} {S seen : List (List UInt8)} (h : YM l S seen []) (x : List UInt8) : x ∈ seen ↔ Rc l S x := by
 constructor
 ·exact h.hseen x
 ·intro k
  induction k with
  | base h1 => exact (h.all _ h1).resolve_right (by simp)
  | step h1 h2 ih => exact (h.next _ ih _ h2).resolve_right (by simp)
/-- How long it may go on: what may still be laid up. -/
def YM.left (l : List Nd) (seen todo : List (List UInt8)) : Nat := todo.length + ((l.filter fun n => !seen.contains n.id).map fun n => n.ps.length + 1).sum
theorem YM.le {l : List Nd} (hn : (AL l).Nodup) {seen todo : List (List UInt8)} {n : Nd} (hnl : n ∈ l) (hx : ¬ n.id ∈ seen) : YM.left l (seen ++ [n.id]) (todo ++ n.ps) < YM.left l seen (todo ++ [n.id]) := by
 unfold YM.left
 simp only [List.length_append, List.length_singleton]
 have key : ∀ (m : List Nd), (AL m).Nodup → n ∈ m → ((m.filter fun q => !(seen ++ [n.id]).contains q.id).map fun q => q.ps.length + 1).sum + (n.ps.length + 1) = ((m.filter fun q => !seen.contains q.id).map fun q => q.ps.length + 1).sum := by
  intro m
  induction m with
  | nil => intro _ h; cases h
  | cons a m ih =>
   intro hnd hm
   rw [AL, List.map_cons, List.nodup_cons] at hnd
   rcases List.mem_cons.1 hm with rfl | hm
   ·have e1 : (!(seen ++ [n.id]).contains n.id) = false := by simp
    have e2 : (!seen.contains n.id) = true := by simpa using hx
    rw [List.filter_cons_of_neg (by rw [e1]; simp), List.filter_cons_of_pos (by rw [e2])]
    rw [List.map_cons, List.sum_cons]
    have e3 : (m.filter fun q => !(seen ++ [n.id]).contains q.id) = m.filter fun q => !seen.contains q.id := by
     refine List.filter_congr fun q hq => ?_
     have hne : q.id ≠ n.id := fun e => hnd.1 (e ▸ List.mem_map.2 ⟨q, hq, rfl⟩)
     simp [hne]
    rw [e3]; omega
   ·have hne : a.id ≠ n.id := fun e => hnd.1 (e ▸ List.mem_map.2 ⟨n, hm, rfl⟩)
    have ih' := ih hnd.2 hm
    by_cases ha : a.id ∈ seen
    ·rw [List.filter_cons_of_neg (by simp [ha]), List.filter_cons_of_neg (by simp [ha])]
     exact ih'
    ·rw [List.filter_cons_of_pos (by simp [ha, hne]), List.filter_cons_of_pos (by simp [ha]), List.map_cons, List.map_cons, List.sum_cons, List.sum_cons]
     omega
 have := key l hn hnl
 omega
end Go.Proofs.YtingoaihnlhiaaaDoor


namespace Go.Proofs.YtingoaihnlhiaaaDoor
open Go.RowKit
variable [Bc]
set_option linter.unusedSectionVars false
set_option linter.unusedVariables false
set_option linter.unusedSimpArgs false

noncomputable def A3B (l : List Nd) : Nat := @ite _ (GOk l) (Classical.propDecidable _) 0 80
end Go.Proofs.YtingoaihnlhiaaaDoor


namespace Go.Proofs.YtingoaihnlhiaaaDoor
open Go.RowKit
variable [Bc]
set_option linter.unusedSectionVars false
set_option linter.unusedVariables false
set_option autoImplicit false

theorem AhZ {k l : List UInt8} {x : TV} : ∀ {es : List (List UInt8 × TV)}, GL k (Hg l x es) = if l = k then some x else GL k es
 | [] => by simp [Hg, GL]
 | (q, y) :: es => by
  rw [Hg]
  by_cases hq : q = l
  ·subst hq
   rw [if_pos rfl, GL, GL]
   by_cases h : q = k <;> simp [h]
  ·rw [if_neg hq, GL, GL, AhZ]
   by_cases h : q = k
   ·subst h; rw [if_pos rfl, if_neg (fun e => hq e.symm), if_pos rfl]
   ·rw [if_neg h, if_neg h]
theorem Vg {k : List UInt8} {x : TV} : ∀ {es : List (List UInt8 × TV)}, (Hg k x es)[Uy k es]? = some (k, x)
 | [] => by simp [Hg, Uy]
 | (q, y) :: es => by
  rw [Hg, Uy]
  by_cases hq : q = k
  ·subst hq; simp
  ·rw [if_neg hq, if_neg hq, List.getElem?_cons_succ, Vg]
theorem Qe {k : List UInt8} {x y : TV} : ∀ {es : List (List UInt8 × TV)}, (Hg k x es).set (Uy k es) (k, y) = Hg k y es
 | [] => by simp [Hg, Uy]
 | (q, z) :: es => by
  rw [Hg, Uy]
  by_cases hq : q = k
  ·subst hq; simp [Hg]
  ·rw [if_neg hq, if_neg hq, List.set_cons_succ, Qe, Hg, if_neg hq]
theorem pr1 {α β : Type} {a : α} {b : β} : (a, b).1 = a := by simp
theorem pr2 {α β : Type} {a : α} {b : β} : (a, b).2 = b := by simp
theorem Aee {k : List UInt8} {x : TV} : ∀ {es : List (List UInt8 × TV)}, (Hg k x es).length = es.length + if k ∈ es.map (·.1) then 0 else 1
 | [] => by simp [Hg]
 | (q, y) :: es => by
  rw [Hg]
  by_cases hq : q = k
  ·subst hq; simp
  ·rw [if_neg hq, List.length_cons, Aee]
   have : ¬ k = q := fun e => hq e.symm
   simp only [List.map_cons, List.mem_cons, this, false_or, List.length_cons]
   omega
theorem Abf {k : List UInt8} {x : TV} : ∀ {es : List (List UInt8 × TV)}, ¬ k ∈ es.map (·.1) → Hg k x es = es ++ [(k, x)]
 | [], _ => by simp [Hg]
 | (q, y) :: es, h => by
  rw [List.map_cons, List.mem_cons, not_or] at h
  rw [Hg, if_neg (fun e => h.1 e.symm), Abf h.2, List.cons_append]
theorem AbS {k : List UInt8} {x : TV} : ∀ {es : List (List UInt8 × TV)} (y : List UInt8), y ∈ (Hg k x es).map (·.1) ↔ y = k ∨ y ∈ es.map (·.1)
 | [], y => by simp [Hg]
 | (q, z) :: es, y => by
  rw [Hg]
  by_cases hq : q = k
  ·subst hq; simp
  ·rw [if_neg hq, List.map_cons, List.mem_cons, AbS, List.map_cons, List.mem_cons]
   simp only []
   constructor
   ·rintro (h | h | h)
    ·exact .inr (.inl h)
    ·exact .inl h
    ·exact .inr (.inr h)
   ·rintro (h | h | h)
    ·exact .inr (.inl h)
    ·exact .inl h
    ·exact .inr (.inr h)

theorem Zb {α : Type} {P : List α → Prop} (h0 : P []) (hs : ∀ l a, P l → P (l ++ [a])) (l : List α) : P l := by
 have key : ∀ r : List α, P r.reverse := by
  intro r
  induction r with
  | nil => exact h0
  | cons a r ih => rw [List.reverse_cons]; exact hs _ _ ih
 have := key l.reverse
 rwa [List.reverse_reverse] at this
/-- Nodes by their ids, aS they are laid in, one by one. -/
def AZ (l : List Nd) : List (List UInt8 × TV) := l.foldl (fun es n => Hg n.id (ndT n) es) []
theorem LM {l : List Nd} {n : Nd} : AZ (l ++ [n]) = Hg n.id (ndT n) (AZ l) := by simp [AZ]
theorem Adi {l : List Nd} : ∀ y, y ∈ (AZ l).map (·.1) ↔ y ∈ AL l := by
 refine Zb (P := fun l => ∀ y, y ∈ (AZ l).map (·.1) ↔ y ∈ AL l) ?_ ?_ l
 ·simp [AZ, AL]
 ·intro l n ih y
  rw [LM, AbS, ih]
  simp [AL, or_comm]
theorem NW {l : List Nd} : (AZ l).length ≤ l.length ∧ ((AZ l).length = l.length ↔ (AL l).Nodup) ∧ ((AL l).Nodup → AZ l = l.map fun n => (n.id, ndT n)) := by
 refine Zb (P := fun l => (AZ l).length ≤ l.length ∧ ((AZ l).length = l.length ↔ (AL l).Nodup) ∧ ((AL l).Nodup → AZ l = l.map fun n => (n.id, ndT n))) ?_ ?_ l
 ·simp [AZ, AL]
 ·intro l n ih
  obtain ⟨h1, h2, h3⟩ := ih
  have hk := Adi (l := l) n.id
  have hlen := Aee (k := n.id) (x := ndT n) (es := AZ l)
  rw [LM, List.length_append, List.length_singleton]
  have hnd : (AL (l ++ [n])).Nodup ↔ (AL l).Nodup ∧ ¬ n.id ∈ AL l := by
   have e : AL (l ++ [n]) = AL l ++ [n.id] := by simp [AL]
   rw [e, List.nodup_append]
   constructor
   ·rintro ⟨g1, _, g2⟩
    exact ⟨g1, fun hm => g2 _ hm _ (by simp) rfl⟩
   ·rintro ⟨g1, g2⟩
    exact ⟨g1, by simp, fun a ha b hb => by rw [List.mem_singleton] at hb; subst hb; exact fun e => g2 (e ▸ ha)⟩
  by_cases hm : n.id ∈ AL l
  ·rw [if_pos (hk.2 hm)] at hlen
   refine ⟨by omega, ⟨fun e => by omega, fun e => absurd hm (hnd.1 e).2⟩, fun e => absurd hm (hnd.1 e).2⟩
  ·rw [if_neg (fun h => hm (hk.1 h))] at hlen
   refine ⟨by omega, ⟨fun e => hnd.2 ⟨h2.1 (by omega), hm⟩, fun e => by have := h2.2 (hnd.1 e).1; omega⟩, fun e => ?_⟩
   rw [Abf (fun h => hm (hk.1 h)), h3 (hnd.1 e).1]
   simp
theorem Acu {l : List Nd} {x : List UInt8} : GL x (l.map fun n => (n.id, ndT n)) = (l.find? fun n => n.id == x).map ndT := by
 induction l with
 | nil => rfl
 | cons n l ih =>
  rw [List.map_cons, GL, List.find?_cons]
  by_cases h : n.id = x
  ·simp [h]
  ·have : (n.id == x) = false := by simpa using h
   rw [if_neg h, this, ih]
theorem EY {l : List Nd} (hn : (AL l).Nodup) {n : Nd} (h : n ∈ l) : GL n.id (AZ l) = some (ndT n) := by
 rw [NW.2.2 hn, Acu]
 obtain ⟨i, hi, rfl⟩ := List.mem_iff_getElem.1 h
 have : (l.find? fun m => m.id == l[i].id) = some l[i] := by
  rw [List.find?_eq_some_iff_getElem]
  refine ⟨by simp, i, hi, rfl, fun j hj => ?_⟩
  have := AaG hn hi
  have hne : ¬ l[j].id = l[i].id := fun e => by
   have h2 := AaG hn (i := j) (by omega)
   rw [e] at h2; omega
  simpa using hne
 rw [this]; rfl
theorem Zm {l : List Nd} {x : List UInt8} (h : ¬ x ∈ AL l) (hn : (AL l).Nodup) : GL x (AZ l) = none := by
 rw [NW.2.2 hn, Acu, Option.map_eq_none_iff, List.find?_eq_none]
 intro n hnl
 have : ¬ n.id = x := fun e => h (e ▸ VL hnl)
 simpa using this

/-- No entry refers to an object. -/
def NQ (es : List (List UInt8 × TV)) : Prop := ∀ g, Et g (es.map (·.2)) = true
theorem NQ.put {es : List (List UInt8 × TV)} (h : NQ es) {k : List UInt8} {x : TV} (hx : ∀ g, EI g x = true) : NQ (Hg k x es) := by
 intro g
 have h1 := h g
 clear h
 induction es with
 | nil => rw [Hg, List.map_cons, Et, hx g]; rfl
 | cons e es ih =>
  obtain ⟨q, y⟩ := e
  rw [List.map_cons, Et, Bool.and_eq_true] at h1
  rw [Hg]
  split
  ·rw [List.map_cons, Et, hx g, h1.2]; rfl
  ·rw [List.map_cons, Et, h1.1, ih h1.2]; rfl
theorem NQ.nil : NQ [] := fun g => rfl
theorem DZ {l : List Nd} : NQ (AZ l) := by
 refine Zb (P := fun l => NQ (AZ l)) NQ.nil (fun l n ih => ?_) l
 rw [LM]
 exact ih.put fun g => by rw [Bf]; rfl
/-- A map that counts. -/
def Y2 (es : List (List UInt8 × TV)) (f : List UInt8 → Nat) : Prop := ∀ y, (GL y es).getD (i64 ((0 : Nat) : Int)) = i64 ((f y : Nat) : Int)
theorem Y2.put {es : List (List UInt8 × TV)} {f : List UInt8 → Nat} (h : Y2 es f) (p : List UInt8) (n : Nat) : Y2 (Hg p (i64 ((n : Nat) : Int)) es) (fun y => if p = y then n else f y) := by
 intro y
 rw [AhZ]
 by_cases e : p = y
 ·simp [e]
 ·simp only [if_neg e]; exact h y
theorem Y2.congr {es : List (List UInt8 × TV)} {f g : List UInt8 → Nat} (h : Y2 es f) (e : ∀ y, g y = f y) : Y2 es g := fun y => by rw [e]; exact h y
theorem Y2.nil : Y2 [] (fun _ => 0) := fun y => by rw [GL]; rfl

theorem Am0 {l : List Nd} (hp : ∀ n ∈ l, n.ps.length ≤ 1000) (d : List (List UInt8)) (y : List UInt8) : kids l d y ≤ 1000 * l.length := by
 unfold kids
 refine Nat.le_trans List.count_le_length ?_
 rw [List.length_flatMap]
 induction l with
 | nil => simp
 | cons n l ih =>
  have h1 := ih fun m hm => hp m (by simp [hm])
  have h2 := hp n (by simp)
  rw [List.filter_cons, List.length_cons]
  split
  ·rw [List.map_cons, List.sum_cons]; omega
  ·omega
theorem Aih {l : List Nd} {y : List UInt8} : kids l [] y = (l.flatMap (·.ps)).count y := by
 unfold kids
 rw [List.filter_eq_self.2 (by simp)]
end Go.Proofs.YtingoaihnlhiaaaDoor


namespace Go.Proofs.YtingoaihnlhiaaaDoor
open Go.RowKit
variable [Bc]
set_option linter.unusedSectionVars false
set_option linter.unusedVariables false
set_option linter.unusedSimpArgs false

theorem Af2 {n : Nd} : AC (ndT n) = 22 := by rw [Bf]; rfl
theorem AjV {cs : List TV} {off m : Nat} {x : List UInt8} {fr : List (List UInt8)} (h : (cs.drop off).take (m + 1) = (x :: fr).map idT) : cs[off]? = some (idT x) ∧ (cs.drop (off + 1)).take m = fr.map idT := by
 have h0 : ((cs.drop off).take (m + 1))[0]? = some (idT x) := by rw [h]; rfl
 rw [List.getElem?_take, if_pos (by omega), List.getElem?_drop, Nat.add_zero] at h0
 refine ⟨h0, ?_⟩
 have h1 := congrArg (List.drop 1) h
 rw [List.drop_take, List.drop_drop] at h1
 simpa using h1

theorem Abc {l : List Nd} {n : Nd} {g : Nat} : Et g ((Hg n.id (TV.agg [TV.arr 20 1 (n.id.map by8), TV.sl 20 (n.ps.map idT), i64 n.tm]) (AZ l)).map (·.2)) = true := (DZ.put (x := TV.agg _) fun g => rfl) g
abbrev V9 : Ob := .obj 0 (.agg [.mp 0 0, .val (.map none)])
theorem A2b (l : List Nd) (hl : l.length ≤ 1000) (hp : ∀ n ∈ l, n.ps.length ≤ 1000) : Aq Tryd.prog 35 [.sl 22 (l.map ndT)] [] (fun x H' =>
  (GOk l → x = .tup [.op 1 0 [], .val .nilIface] ∧ ∃ es o, H' = [.mpo (.arr 20) (AZ l), V9, .mpo (.arr 20) es, o]) ∧ (¬ GOk l → x = .tup [.val (.pointer none), .ifc 36 (i64 ((80 : Nat) : Int))])) := by
 refine Abv (by simp) ?_
 simp -dsimp (disch := first | assumption | omega) only [↓Ah, Ae, Ag, Ai, eq_self, forall_const, Nat.reduceLT, Nat.reduceEqDiff, Nat.reduceSub, Nat.reduceMul, Nat.reduceMod, Nat.reduceDiv, Nat.reducePow, UInt8.reduceToNat, Int.reduceEq, Int.reduceLT, Int.reduceLE, ↓reduceIte, Nat.reduceAdd, Int.reduceToNat, reduceCtorEq, Nat.reduceLeDiff, ↓AX]
 -- the nodes
 refine BN (fun q e H => ∃ i : Nat, q = l.length - i ∧ i ≤ l.length ∧ e = [(0, .sl 22 (l.map ndT)), (4, .op 1 0 []), (26, .sl 22 (l.map ndT)), (27, i64 (l.length : Int)), (28, i64 (i : Int))] ∧ H = [.mpo (.arr 20) (AZ (l.take i)), V9]) l.length ?_ ?_
 ·exact ⟨0, by simp, by simp, rfl, by simp [AZ]⟩
 ·rintro q e H ⟨i, rfl, hi, rfl, rfl⟩
  by_cases h : i < l.length
  ·have hg : l[i]? = some l[i] := List.getElem?_eq_getElem h
   have hsucc := List.take_succ_eq_append_getElem h
   generalize l[i] = n at *
   simp -dsimp (disch := first | assumption | omega) only [↓Ah, Ae, Ag, Ai, eq_self, forall_const, Nat.reduceLT, Nat.reduceEqDiff, Nat.reduceSub, Nat.reduceMul, Nat.reduceMod, Nat.reduceDiv, Nat.reducePow, UInt8.reduceToNat, Int.reduceEq, Int.reduceLT, Int.reduceLE, ↓reduceIte, Nat.reduceAdd, Int.reduceToNat, reduceCtorEq, Nat.reduceLeDiff, ↓AX, hg, Bf]
   refine PS (l.length - (i + 1)) 2 (by omega) (by simp) rfl (by simp [KC, QK, EI, Et, DZ _, Abc]) ⟨i + 1, rfl, by omega, rfl, ?_⟩
   rw [hsucc, LM, Bf]; rfl
  ·have hi2 : i = l.length := by omega
   rw [hi2, List.take_length]
   clear hi2 hi
   by_cases hn : (AL l).Nodup
   case neg =>
    have h1 := (NW (l := l)).1
    have h2 : ¬ (AZ l).length = l.length := fun e => hn (NW.2.1.1 e)
    have h3 : (AZ l).length < l.length := by omega
    have hno : ¬ GOk l := fun hok => hn hok.1.nodup
    simp -dsimp (disch := first | assumption | omega) only [↓Ah, Ae, Ag, Ai, eq_self, forall_const, Nat.reduceLT, Nat.reduceEqDiff, Nat.reduceSub, Nat.reduceMul, Nat.reduceMod, Nat.reduceDiv, Nat.reducePow, UInt8.reduceToNat, Int.reduceEq, Int.reduceLT, Int.reduceLE, ↓reduceIte, Nat.reduceAdd, Int.reduceToNat, reduceCtorEq, Nat.reduceLeDiff, ↓AX]
    exact ⟨fun hok => absurd hok hno, by simp⟩
   have hlen : (AZ l).length = l.length := NW.2.1.2 hn
   simp -dsimp (disch := first | assumption | omega) only [↓Ah, Ae, Ag, Ai, eq_self, forall_const, Nat.reduceLT, Nat.reduceEqDiff, Nat.reduceSub, Nat.reduceMul, Nat.reduceMod, Nat.reduceDiv, Nat.reducePow, UInt8.reduceToNat, Int.reduceEq, Int.reduceLT, Int.reduceLE, ↓reduceIte, Nat.reduceAdd, Int.reduceToNat, reduceCtorEq, Nat.reduceLeDiff, ↓AX, hlen]
   -- who names whom
   refine BN (fun q e H => ∃ (i : Nat) (es : List (List UInt8 × TV)) (f : List UInt8 → Nat), q = l.length - i ∧ i ≤ l.length ∧ (Y2 es f ∧ NQ es) ∧ (∀ y, f y = ((l.take i).flatMap (·.ps)).count y) ∧ (∀ y, f y ≤ 1000 * i) ∧ (∀ n ∈ l.take i, ∀ p ∈ n.ps, p ∈ AL l) ∧
    e = [(0, .sl 22 (l.map ndT)), (4, .op 1 0 []), (7, .mp 2 0), (55, .sl 22 (l.map ndT)), (56, i64 (l.length : Int)), (57, i64 (i : Int))] ∧ H = [.mpo (.arr 20) (AZ l), V9, .mpo (.arr 20) es]) l.length ?_ ?_
   ·exact ⟨0, [], fun _ => 0, by simp, by simp, ⟨Y2.nil, NQ.nil⟩, by simp, by simp, by simp, rfl, rfl⟩
   ·clear h i
    rintro q e H ⟨i, es, f, rfl, hi, ⟨hc, hbm⟩, hf, hb, hv, rfl, rfl⟩
    by_cases h : i < l.length
    ·have hg : l[i]? = some l[i] := List.getElem?_eq_getElem h
     have hsucc := List.take_succ_eq_append_getElem h
     have hpi := hp l[i] (List.getElem_mem h)
     have hmem := List.getElem_mem h
     generalize l[i] = n at *
     simp -dsimp (disch := first | assumption | omega) only [↓Ah, Ae, Ag, Ai, eq_self, forall_const, Nat.reduceLT, Nat.reduceEqDiff, Nat.reduceSub, Nat.reduceMul, Nat.reduceMod, Nat.reduceDiv, Nat.reducePow, UInt8.reduceToNat, Int.reduceEq, Int.reduceLT, Int.reduceLE, ↓reduceIte, Nat.reduceAdd, Int.reduceToNat, reduceCtorEq, Nat.reduceLeDiff, ↓AX, hg, Bf]
     refine BN (fun q e H => ∃ (k : Nat) (es : List (List UInt8 × TV)) (f' : List UInt8 → Nat), q = n.ps.length - k ∧ k ≤ n.ps.length ∧ (Y2 es f' ∧ NQ es) ∧ (∀ y, f' y = f y + (n.ps.take k).count y) ∧ (∀ y, f' y ≤ 1000 * i + k) ∧ (∀ p ∈ n.ps.take k, p ∈ AL l) ∧
      e = [(0, .sl 22 (l.map ndT)), (4, .op 1 0 []), (7, .mp 2 0), (55, .sl 22 (l.map ndT)), (56, i64 (l.length : Int)), (57, i64 (i : Int)), (62, .sl 20 (n.ps.map idT)), (63, i64 (n.ps.length : Int)), (64, i64 (k : Int))] ∧ H = [.mpo (.arr 20) (AZ l), V9, .mpo (.arr 20) es, .obj 0 (ndT n)]) n.ps.length ?_ ?_
     ·exact ⟨0, es, f, by simp, by simp, ⟨hc, hbm⟩, by simp, by simpa using hb, by simp, rfl, by rw [Bf]⟩
     ·clear hc hbm
      rintro q e H ⟨k, es, f', rfl, hk, ⟨hc, hbm⟩, hf2, hb2, hv2, rfl, rfl⟩
      by_cases h2 : k < n.ps.length
      ·have hg2 : n.ps[k]? = some n.ps[k] := List.getElem?_eq_getElem h2
       have hsucc2 := List.take_succ_eq_append_getElem h2
       have hpm := List.getElem_mem h2
       generalize n.ps[k] = p at *
       have hcp := hc p
       have hbp := hb2 p
       by_cases hpl : p ∈ AL l
       ·obtain ⟨m, hm, hme⟩ := List.mem_map.1 hpl
        have hlook : GL p (AZ l) = some (ndT m) := by rw [← hme]; exact EY hn hm
        simp -dsimp (disch := first | assumption | omega) only [↓Ah, Ae, Ag, Ai, eq_self, forall_const, Nat.reduceLT, Nat.reduceEqDiff, Nat.reduceSub, Nat.reduceMul, Nat.reduceMod, Nat.reduceDiv, Nat.reducePow, UInt8.reduceToNat, Int.reduceEq, Int.reduceLT, Int.reduceLE, ↓reduceIte, Nat.reduceAdd, Int.reduceToNat, reduceCtorEq, Nat.reduceLeDiff, ↓AX, hg2, AP, hlook, Bf, Option.isSome_some, Option.isSome_none]
        simp -dsimp (disch := first | assumption | omega) only [↓Ah, Ae, Ag, Ai, eq_self, forall_const, Nat.reduceLT, Nat.reduceEqDiff, Nat.reduceSub, Nat.reduceMul, Nat.reduceMod, Nat.reduceDiv, Nat.reducePow, UInt8.reduceToNat, Int.reduceEq, Int.reduceLT, Int.reduceLE, ↓reduceIte, Nat.reduceAdd, Int.reduceToNat, reduceCtorEq, Nat.reduceLeDiff, ↓AX, hcp, Vg, Qe, pr1, pr2]
        refine PS (n.ps.length - (k + 1)) 4 (by omega) (by simp) rfl (by simp [KC, QK, EI, Et, DZ _, hbm _, Bf, AP, (hbm.put (x := .val (.int .i64 ((f' p : Nat) + 1 : Int))) fun g => rfl) 4]) ⟨k + 1, _, _, rfl, by omega, ⟨hc.put p (f' p + 1), hbm.put fun g => rfl⟩, fun y => ?_, fun y => ?_, fun y hy => ?_, rfl, by rw [Bf]; rfl⟩
        ·rw [hsucc2, List.count_append, ← Nat.add_assoc, ← hf2 y]
         by_cases e : p = y
         ·subst e; simp
         ·simp [e]
        ·have := hb2 y
         by_cases e : p = y
         ·subst e; simp; omega
         ·simp [e]; omega
        ·rw [hsucc2, List.mem_append, List.mem_singleton] at hy
         rcases hy with hy | rfl
         ·exact hv2 y hy
         ·exact hpl
       ·have hlook := Zm hpl hn
        have hno : ¬ GOk l := fun hok => hpl (hok.1.there n hmem p hpm)
        simp -dsimp (disch := first | assumption | omega) only [↓Ah, Ae, Ag, Ai, eq_self, forall_const, Nat.reduceLT, Nat.reduceEqDiff, Nat.reduceSub, Nat.reduceMul, Nat.reduceMod, Nat.reduceDiv, Nat.reducePow, UInt8.reduceToNat, Int.reduceEq, Int.reduceLT, Int.reduceLE, ↓reduceIte, Nat.reduceAdd, Int.reduceToNat, reduceCtorEq, Nat.reduceLeDiff, ↓AX, hg2, AP, hlook, Option.isSome_some, Option.isSome_none]
        exact ⟨fun hok => absurd hok hno, by simp⟩
      ·have hk2 : k = n.ps.length := by omega
       rw [hk2] at hf2 hv2
       rw [List.take_length] at hv2
       simp -dsimp (disch := first | assumption | omega) only [↓Ah, Ae, Ag, Ai, eq_self, forall_const, Nat.reduceLT, Nat.reduceEqDiff, Nat.reduceSub, Nat.reduceMul, Nat.reduceMod, Nat.reduceDiv, Nat.reducePow, UInt8.reduceToNat, Int.reduceEq, Int.reduceLT, Int.reduceLE, ↓reduceIte, Nat.reduceAdd, Int.reduceToNat, reduceCtorEq, Nat.reduceLeDiff, ↓AX]
       refine PS (l.length - (i + 1)) 3 (by omega) (by simp) rfl (by simp [KC, QK, EI, Et, DZ _, hbm _, Bf, AP]) ⟨i + 1, es, f', rfl, by omega, ⟨hc, hbm⟩, fun y => ?_, fun y => by have := hb2 y; omega, fun m hm p hp' => ?_, rfl, rfl⟩
       ·rw [hf2 y, hsucc, List.take_length, hf y]; simp
       ·rw [hsucc, List.mem_append, List.mem_singleton] at hm
        rcases hm with hm | rfl
        ·exact hv m hm p hp'
        ·exact hv2 p hp'
    ·have hi2 : i = l.length := by omega
     rw [hi2, List.take_length] at hf hv
     clear hi2 hi hb
     have hV : Af6 l := ⟨hn, hv⟩
     replace hf : ∀ y, f y = kids l [] y := fun y => by rw [hf y, Aih]
     replace hc : Y2 es (kids l []) := hc.congr fun y => (hf y).symm
     clear hf hv
     have hkb := fun d y => Am0 hp d y
     simp -dsimp (disch := first | assumption | omega) only [↓Ah, Ae, Ag, Ai, eq_self, forall_const, Nat.reduceLT, Nat.reduceEqDiff, Nat.reduceSub, Nat.reduceMul, Nat.reduceMod, Nat.reduceDiv, Nat.reducePow, UInt8.reduceToNat, Int.reduceEq, Int.reduceLT, Int.reduceLE, ↓reduceIte, Nat.reduceAdd, Int.reduceToNat, reduceCtorEq, Nat.reduceLeDiff, ↓AX]
     -- those that are free at first
     refine BN (fun q e H => ∃ (i v : Nat) (fr : List (List UInt8)), q = l.length - i ∧ i ≤ l.length ∧ fr = (AL (l.take i)).filter (fun y => decide (kids l [] y = 0)) ∧ fr.length ≤ i ∧
      e = [(0, .sl 22 (l.map ndT)), (4, .op 1 0 []), (7, .mp 2 0), (14, .os 20 3 v [] 0 fr.length fr.length), (88, .sl 22 (l.map ndT)), (89, i64 (l.length : Int)), (90, i64 (i : Int))] ∧ H = [.mpo (.arr 20) (AZ l), V9, .mpo (.arr 20) es, .obj v (.arr fr.length 20 (fr.map idT))]) l.length ?_ ?_
     ·exact ⟨0, 0, [], by simp, by simp, by simp [AL], by simp, rfl, rfl⟩
     ·clear h i
      rintro q e H ⟨i, v, fr, rfl, hi, hfr, hfl, rfl, rfl⟩
      by_cases h : i < l.length
      ·have hg : l[i]? = some l[i] := List.getElem?_eq_getElem h
       have hsucc := List.take_succ_eq_append_getElem h
       generalize l[i] = n at *
       have hcp := hc n.id
       have hkn := hkb [] n.id
       have hfs : (AL (l.take (i + 1))).filter (fun y => decide (kids l [] y = 0)) = fr ++ (if kids l [] n.id = 0 then [n.id] else []) := by
        rw [hsucc, hfr]
        simp only [AL, List.map_append, List.filter_append, List.map_cons, List.map_nil]
        congr 1
        by_cases h0 : kids l [] n.id = 0 <;> simp [h0]
       by_cases h0 : kids l [] n.id = 0
       ·rw [if_pos h0] at hfs
        rw [h0] at hcp
        have htk : (fr.map idT).take fr.length = fr.map idT := EX rfl
        simp -dsimp (disch := first | assumption | omega) only [↓Ah, Ae, Ag, Ai, eq_self, forall_const, Nat.reduceLT, Nat.reduceEqDiff, Nat.reduceSub, Nat.reduceMul, Nat.reduceMod, Nat.reduceDiv, Nat.reducePow, UInt8.reduceToNat, Int.reduceEq, Int.reduceLT, Int.reduceLE, ↓reduceIte, Nat.reduceAdd, Int.reduceToNat, reduceCtorEq, Nat.reduceLeDiff, ↓AX, hg, Bf, hcp, PW, LP, htk, Zj]
        refine PS (l.length - (i + 1)) 4 (by omega) (by simp) rfl (by simp [KC, QK, EI, Et, DZ _, hbm _, Bf, AP]) ⟨i + 1, v + 1, fr ++ [n.id], rfl, by omega, hfs.symm, by simp; omega, by simp [forget, get], by simp⟩
       ·rw [if_neg h0, List.append_nil] at hfs
        simp -dsimp (disch := first | assumption | omega) only [↓Ah, Ae, Ag, Ai, eq_self, forall_const, Nat.reduceLT, Nat.reduceEqDiff, Nat.reduceSub, Nat.reduceMul, Nat.reduceMod, Nat.reduceDiv, Nat.reducePow, UInt8.reduceToNat, Int.reduceEq, Int.reduceLT, Int.reduceLE, ↓reduceIte, Nat.reduceAdd, Int.reduceToNat, reduceCtorEq, Nat.reduceLeDiff, ↓AX, hg, Bf, hcp]
        refine PS (l.length - (i + 1)) 4 (by omega) (by simp) rfl (by simp [KC, QK, EI, Et, DZ _, hbm _, Bf, AP]) ⟨i + 1, v, fr, rfl, by omega, hfs.symm, by omega, rfl, rfl⟩
      ·have hi2 : i = l.length := by omega
       rw [hi2, List.take_length] at hfr
       have hK : Ad8 l [] fr (kids l []) := ⟨.nil, by rw [hfr]; exact hn.filter _, fun y => by rw [hfr]; simp [List.mem_filter], by simp⟩
       clear hi2 hfr hfl hi
       simp -dsimp (disch := first | assumption | omega) only [↓Ah, Ae, Ag, Ai, eq_self, forall_const, Nat.reduceLT, Nat.reduceEqDiff, Nat.reduceSub, Nat.reduceMul, Nat.reduceMod, Nat.reduceDiv, Nat.reducePow, UInt8.reduceToNat, Int.reduceEq, Int.reduceLT, Int.reduceLE, ↓reduceIte, Nat.reduceAdd, Int.reduceToNat, reduceCtorEq, Nat.reduceLeDiff, ↓AX]
       -- coming free
       refine BN (fun q e H => ∃ (d fr : List (List UInt8)) (es : List (List UInt8 × TV)) (off n v cp : Nat) (cs : List TV), q = l.length - d.length ∧ Ad8 l d fr (kids l d) ∧ (Y2 es (kids l d) ∧ NQ es) ∧ (cs.drop off).take fr.length = fr.map idT ∧ off + fr.length ≤ cs.length ∧ fr.length ≤ cp ∧
        e = [(0, .sl 22 (l.map ndT)), (4, .op 1 0 []), (7, .mp 2 0), (14, .os 20 3 v [] off fr.length cp), (17, i64 (d.length : Int))] ∧ H = [.mpo (.arr 20) (AZ l), V9, .mpo (.arr 20) es, .obj v (.arr n 20 cs)]) l.length ?_ ?_
       ·exact ⟨[], fr, es, 0, fr.length, v, fr.length, fr.map idT, by simp, hK, ⟨hc, hbm⟩, by rw [List.drop_zero]; exact EX rfl, by simp, by simp, rfl, rfl⟩
       ·clear hK hc h hbm
        rintro q e H ⟨d, fr, es, off, N, v, cp, cs, rfl, hK, ⟨hc, hbm⟩, hcs, hol, hcl, rfl, rfl⟩
        have hdl := hK.ord.le
        cases fr with
        | nil =>
         clear hcs hol hcl
         have hfin := hK.none hV
         by_cases hd : d.length = l.length
         ·have hok : GOk l := ⟨hV, hfin.1 hd⟩
          simp -dsimp (disch := first | assumption | omega) only [↓Ah, Ae, Ag, Ai, eq_self, forall_const, Nat.reduceLT, Nat.reduceEqDiff, Nat.reduceSub, Nat.reduceMul, Nat.reduceMod, Nat.reduceDiv, Nat.reducePow, UInt8.reduceToNat, Int.reduceEq, Int.reduceLT, Int.reduceLE, ↓reduceIte, Nat.reduceAdd, Int.reduceToNat, reduceCtorEq, Nat.reduceLeDiff, ↓AX]
          exact ⟨fun _ => ⟨es, _, rfl⟩, fun hno => absurd hok hno⟩
         ·have hno : ¬ GOk l := fun hok => hd (hfin.2 hok.2)
          simp -dsimp (disch := first | assumption | omega) only [↓Ah, Ae, Ag, Ai, eq_self, forall_const, Nat.reduceLT, Nat.reduceEqDiff, Nat.reduceSub, Nat.reduceMul, Nat.reduceMod, Nat.reduceDiv, Nat.reducePow, UInt8.reduceToNat, Int.reduceEq, Int.reduceLT, Int.reduceLE, ↓reduceIte, Nat.reduceAdd, Int.reduceToNat, reduceCtorEq, Nat.reduceLeDiff, ↓AX]
          exact ⟨fun hok => absurd hok hno, by simp⟩
        | cons x fr =>
         obtain ⟨hx1, hx2, hx3⟩ := (hK.free x).1 (by simp)
         obtain ⟨n, hnl, rfl⟩ := List.mem_map.1 hx1
         have hlook := EY hn hnl
         obtain ⟨hc0, hcs⟩ := AjV hcs
         rw [AP] at hc0
         rw [List.length_cons] at hol hcl
         have hT := hK.take hV hnl
         have hd1 : d.length + 1 ≤ l.length := by have := hT.ord.le; simpa using this
         have hpi := hp n hnl
         replace hc : Y2 es (fun y => kids l (d ++ [n.id]) y + n.ps.count y) := hc.congr fun y => (Abz hn hnl hx2 y).symm
         simp -dsimp (disch := first | assumption | omega) only [↓Ah, Ae, Ag, Ai, eq_self, forall_const, Nat.reduceLT, Nat.reduceEqDiff, Nat.reduceSub, Nat.reduceMul, Nat.reduceMod, Nat.reduceDiv, Nat.reducePow, UInt8.reduceToNat, Int.reduceEq, Int.reduceLT, Int.reduceLE, ↓reduceIte, Nat.reduceAdd, Int.reduceToNat, reduceCtorEq, Nat.reduceLeDiff, ↓AX, hc0, hlook, Bf, Nat.add_zero]
         refine BN (fun q e H => ∃ (k : Nat) (fr : List (List UInt8)) (es : List (List UInt8 × TV)) (f : List UInt8 → Nat) (off N v cp : Nat) (cs : List TV), q = n.ps.length - k ∧ k ≤ n.ps.length ∧ Ad8 l (d ++ [n.id]) fr f ∧ (∀ y, f y = kids l (d ++ [n.id]) y + (n.ps.drop k).count y) ∧ (Y2 es f ∧ NQ es) ∧
          (cs.drop off).take fr.length = fr.map idT ∧ off + fr.length ≤ cs.length ∧ fr.length ≤ cp ∧
          e = [(0, .sl 22 (l.map ndT)), (4, .op 1 0 []), (7, .mp 2 0), (14, .os 20 3 v [] off fr.length cp), (17, i64 (d.length : Int)), (121, .sl 20 (n.ps.map idT)), (122, i64 (n.ps.length : Int)), (123, i64 (k : Int))] ∧
          H = [.mpo (.arr 20) (AZ l), V9, .mpo (.arr 20) es, .obj v (.arr N 20 cs), .obj 0 (ndT n)]) n.ps.length ?_ ?_
         ·exact ⟨0, fr, es, _, off + 1, N, v, cp - 1, cs, by simp, by simp, hT, by simp, ⟨hc, hbm⟩, hcs, by omega, by omega, rfl, by rw [Bf]⟩
         ·clear hc hbm hcs hol hcl hc0 hT hK
          rintro q e H ⟨k, fr, es, f, off, N, v, cp, cs, rfl, hk, hK, hf, ⟨hc, hbm⟩, hcs, hol, hcl, rfl, rfl⟩
          by_cases h2 : k < n.ps.length
          ·have hg2 : n.ps[k]? = some n.ps[k] := List.getElem?_eq_getElem h2
           have hdrop := List.drop_eq_getElem_cons h2
           have hpm := List.getElem_mem h2
           generalize n.ps[k] = p at *
           have hcp := hc p
           have hkp := hkb (d ++ [n.id]) p
           have hcnt : (n.ps.drop k).count p ≤ n.ps.length := Nat.le_trans List.count_le_length (by simp)
           have hfp := hf p
           have hf1 : 1 ≤ f p := by rw [hfp, hdrop]; simp; omega
           have hfr1 : fr.length ≤ l.length := by
            have := Gf hK.nodup (e := AL l) fun y hy => ((hK.free y).1 hy).1
            simpa [AL] using this
           have hD := hK.drop (hV.there n hnl p hpm) (by omega)
           have hc' := hc.put p (f p - 1)
           have hf' : ∀ y, (if p = y then f p - 1 else f y) = kids l (d ++ [n.id]) y + (n.ps.drop (k + 1)).count y := by
            intro y
            have h9 := hf y
            rw [hdrop, List.count_cons] at h9
            by_cases e : p = y
            ·subst e; simp at h9 ⊢; omega
            ·simp [e] at h9 ⊢; omega
           by_cases h0 : f p = 1
           ·rw [if_pos h0] at hD
            rw [h0] at hcp hc'
            have hcp2 : (GL p (Hg p (i64 (((1 : Nat) - 1 : Nat) : Int)) es)).getD (i64 ((0 : Nat) : Int)) = i64 ((0 : Nat) : Int) := by rw [AhZ, if_pos rfl]; rfl
            have hoff : (cs.drop off).take fr.length = fr.map idT := hcs
            simp -dsimp (disch := first | assumption | omega) only [↓Ah, Ae, Ag, Ai, eq_self, forall_const, Nat.reduceLT, Nat.reduceEqDiff, Nat.reduceSub, Nat.reduceMul, Nat.reduceMod, Nat.reduceDiv, Nat.reducePow, UInt8.reduceToNat, Int.reduceEq, Int.reduceLT, Int.reduceLE, ↓reduceIte, Nat.reduceAdd, Int.reduceToNat, reduceCtorEq, Nat.reduceLeDiff, ↓AX, hg2, AP, hcp, hcp2, PW, LP, hoff, Zj, Vg, Qe, pr1, pr2]
            have hc0 : Y2 (Hg p (i64 ((0 : Nat) : Int)) es) (fun y => if p = y then f p - 1 else f y) := by rw [h0]; exact hc'
            refine PS (n.ps.length - (k + 1)) 5 (by omega) (by simp) rfl (by simp [KC, QK, EI, Et, DZ _, Bf, AP, (hbm.put (x := .val (.int .i64 0)) fun g => rfl) 5]) ⟨k + 1, fr ++ [p], Hg p (i64 ((0 : Nat) : Int)) es, _, 0, fr.length + 1, v + 1, fr.length + 1, (fr ++ [p]).map idT, rfl, by omega, hD, hf', ⟨hc0, hbm.put fun g => rfl⟩, ?_, ?_, ?_, ?_, rfl⟩
            ·rw [List.drop_zero]; exact EX rfl
            ·simp
            ·simp
            ·simp [forget, get]
           ·rw [if_neg h0] at hD
            have hcp2 : (GL p (Hg p (i64 ((f p - 1 : Nat) : Int)) es)).getD (i64 ((0 : Nat) : Int)) = i64 ((f p - 1 : Nat) : Int) := by rw [AhZ, if_pos rfl]; rfl
            simp -dsimp (disch := first | assumption | omega) only [↓Ah, Ae, Ag, Ai, eq_self, forall_const, Nat.reduceLT, Nat.reduceEqDiff, Nat.reduceSub, Nat.reduceMul, Nat.reduceMod, Nat.reduceDiv, Nat.reducePow, UInt8.reduceToNat, Int.reduceEq, Int.reduceLT, Int.reduceLE, ↓reduceIte, Nat.reduceAdd, Int.reduceToNat, reduceCtorEq, Nat.reduceLeDiff, ↓AX, hg2, AP, hcp, hcp2, Vg, Qe, pr1, pr2]
            refine PS (n.ps.length - (k + 1)) 5 (by omega) (by simp) rfl (by simp [KC, QK, EI, Et, DZ _, Bf, AP, hol, (hbm.put (x := .val (.int .i64 ((f p - 1 : Nat) : Int))) fun g => rfl) 5]) ⟨k + 1, fr, _, _, off, N, v, cp, cs, rfl, by omega, hD, hf', ⟨hc', hbm.put fun g => rfl⟩, hcs, hol, hcl, rfl, rfl⟩
          ·have hk2 : k = n.ps.length := by omega
           rw [hk2, List.drop_length] at hf
           have hfe : ∀ y, kids l (d ++ [n.id]) y = f y := fun y => by rw [hf y]; simp
           simp -dsimp (disch := first | assumption | omega) only [↓Ah, Ae, Ag, Ai, eq_self, forall_const, Nat.reduceLT, Nat.reduceEqDiff, Nat.reduceSub, Nat.reduceMul, Nat.reduceMod, Nat.reduceDiv, Nat.reducePow, UInt8.reduceToNat, Int.reduceEq, Int.reduceLT, Int.reduceLE, ↓reduceIte, Nat.reduceAdd, Int.reduceToNat, reduceCtorEq, Nat.reduceLeDiff, ↓AX]
           refine PS (l.length - (d.length + 1)) 4 (by omega) (by simp) rfl (by simp [KC, QK, EI, Et, DZ _, hbm _, Bf, AP]) ⟨d ++ [n.id], fr, es, off, N, v, cp, cs, by simp, hK.congr hfe, ⟨hc.congr hfe, hbm⟩, hcs, hol, hcl, by simp [forget, get], rfl⟩
end Go.Proofs.YtingoaihnlhiaaaDoor


namespace Go.Proofs.YtingoaihnlhiaaaDoor
variable [Bc]
set_option linter.unusedSectionVars false
set_option linter.unusedVariables false
set_option linter.defProp false
set_option maxRecDepth 100000

def Nc : Af := .seq (.seq (.ops [mv_ 18 9,
  po_ 19 (.eqN 1 (.t 18) (.c .nilIface) true)] [4, 5, 8, 9, 19])
 (.cond (.t 19)
 (.seq (.ops [mv_ 20 9,
   po_ 6 (.mov (.c (.bool false))),
   mv_ 7 20] [6, 7])
  (.ret))
 (.skip)))
 (.seq (.sdraw 3 [mv_ 21 8,
  po_ 22 (.load true 20 (.t 4)),
  po_ 25 (.load true 20 (.t 5)),
  ⟨some 23, .s (.bslice 20 1 (.arr 20 1 [.val (.int .u8 ((0 : Nat) : Int)), .val (.int .u8 ((0 : Nat) : Int)), .val (.int .u8 ((0 : Nat) : Int)), .val (.int .u8 ((0 : Nat) : Int)), .val (.int .u8 ((0 : Nat) : Int)), .val (.int .u8 ((0 : Nat) : Int)), .val (.int .u8 ((0 : Nat) : Int)), .val (.int .u8 ((0 : Nat) : Int)), .val (.int .u8 ((0 : Nat) : Int)), .val (.int .u8 ((0 : Nat) : Int)), .val (.int .u8 ((0 : Nat) : Int)), .val (.int .u8 ((0 : Nat) : Int)), .val (.int .u8 ((0 : Nat) : Int)), .val (.int .u8 ((0 : Nat) : Int)), .val (.int .u8 ((0 : Nat) : Int)), .val (.int .u8 ((0 : Nat) : Int)), .val (.int .u8 ((0 : Nat) : Int)), .val (.int .u8 ((0 : Nat) : Int)), .val (.int .u8 ((0 : Nat) : Int)), .val (.int .u8 ((0 : Nat) : Int))]) [⟨0, .t 22⟩]), none⟩,
  so_ 24 (.call 21 [.t 21, .t 23]),
  so_ 26 (.call 25 [.t 24, .t 25]),
  mv_ 6 26,
  po_ 7 (.mov (.c .nilIface))] [6, 7])
 (.ret))
def Nl : Af := .seq (.opsZ [mv_ 11 0,
  po_ 12 (.load true 20 (.t 4)),
  po_ 13 (.load true 20 (.t 5)),
  ⟨some 14, .s (.bslice 20 2 (.arr 20 1 [.val (.int .u8 ((0 : Nat) : Int)), .val (.int .u8 ((0 : Nat) : Int)), .val (.int .u8 ((0 : Nat) : Int)), .val (.int .u8 ((0 : Nat) : Int)), .val (.int .u8 ((0 : Nat) : Int)), .val (.int .u8 ((0 : Nat) : Int)), .val (.int .u8 ((0 : Nat) : Int)), .val (.int .u8 ((0 : Nat) : Int)), .val (.int .u8 ((0 : Nat) : Int)), .val (.int .u8 ((0 : Nat) : Int)), .val (.int .u8 ((0 : Nat) : Int)), .val (.int .u8 ((0 : Nat) : Int)), .val (.int .u8 ((0 : Nat) : Int)), .val (.int .u8 ((0 : Nat) : Int)), .val (.int .u8 ((0 : Nat) : Int)), .val (.int .u8 ((0 : Nat) : Int)), .val (.int .u8 ((0 : Nat) : Int)), .val (.int .u8 ((0 : Nat) : Int)), .val (.int .u8 ((0 : Nat) : Int)), .val (.int .u8 ((0 : Nat) : Int))]) [⟨0, .t 12⟩, ⟨1, .t 13⟩]), none⟩] [14] [so_ 15 (.call 19 [.t 11, .t 14]),
  mv_ 10 15,
  po_ 16 (.ext 0 (.t 10)),
  po_ 17 (.ext 1 (.t 10)),
  mv_ 8 16,
  mv_ 9 17] [4, 5, 8, 9])
 Nc
def TB : Af := .seq (.ops [so_ 4 (.box (.t 1)),
  so_ 5 (.box (.t 2)),
  po_ 6 (.mov (.c (.bool false))),
  po_ 7 (.mov (.c .nilIface))] [0, 4, 5])
 Nl
def TT : List VR := [.tmp 6, .tmp 7]
theorem Zk : Tryd.f13.body.bind (trC Tryd.prog Tryd.f13.ntmps) = some (er TB) := by kernel_rfl
theorem ZO : trR Tryd.prog Tryd.f13.results.toList = some TT := by kernel_rfl
def Ui := Ac Nc.eq_1
def Ur := Ac Nl.eq_1
def XP := Ac TB.eq_1
theorem Yh {K : TV → Prop} {e : Env} {H : List Ob} : res TT e H K = res [.tmp 6, .tmp 7] e H K := Aa rfl
def Eu := (And.intro (And.intro @Ui @Ur) (And.intro @XP @Yh))
def YT := ET 27 Tryd.func13 Zk ZO rfl

def QV : Af := .seq (.ops [so_ 35 (.nxtM (.t 34)),
  po_ 36 (.ext 0 (.t 35))] [8, 11, 12, 34, 36])
 (.seq (.cond (.t 36)
 (.skip)
 (.exit 0))
 (.block 1 (.seq (.ops [po_ 37 (.gen .entM [.t 34]),
  po_ 38 (.ext 0 (.t 37)),
  so_ 13 (.alloc (.arr 20 1 [.val (.int .u8 ((0 : Nat) : Int)), .val (.int .u8 ((0 : Nat) : Int)), .val (.int .u8 ((0 : Nat) : Int)), .val (.int .u8 ((0 : Nat) : Int)), .val (.int .u8 ((0 : Nat) : Int)), .val (.int .u8 ((0 : Nat) : Int)), .val (.int .u8 ((0 : Nat) : Int)), .val (.int .u8 ((0 : Nat) : Int)), .val (.int .u8 ((0 : Nat) : Int)), .val (.int .u8 ((0 : Nat) : Int)), .val (.int .u8 ((0 : Nat) : Int)), .val (.int .u8 ((0 : Nat) : Int)), .val (.int .u8 ((0 : Nat) : Int)), .val (.int .u8 ((0 : Nat) : Int)), .val (.int .u8 ((0 : Nat) : Int)), .val (.int .u8 ((0 : Nat) : Int)), .val (.int .u8 ((0 : Nat) : Int)), .val (.int .u8 ((0 : Nat) : Int)), .val (.int .u8 ((0 : Nat) : Int)), .val (.int .u8 ((0 : Nat) : Int))])),
  ⟨none, .s (.store 20 (.t 13) (.t 38)), none⟩] [8, 11, 12, 13, 34])
 (.seq (.ops [mv_ 39 11,
  po_ 40 (.load true 20 (.t 13)),
  so_ 41 (.call 25 [.t 39, .t 40])] [8, 11, 12, 13, 34, 41])
 (.cond (.t 41)
 (.ops [mv_ 42 12,
   po_ 43 (.load true 20 (.t 13)),
   ⟨some 44, .s (.bslice 20 1 (.arr 20 1 [.val (.int .u8 ((0 : Nat) : Int)), .val (.int .u8 ((0 : Nat) : Int)), .val (.int .u8 ((0 : Nat) : Int)), .val (.int .u8 ((0 : Nat) : Int)), .val (.int .u8 ((0 : Nat) : Int)), .val (.int .u8 ((0 : Nat) : Int)), .val (.int .u8 ((0 : Nat) : Int)), .val (.int .u8 ((0 : Nat) : Int)), .val (.int .u8 ((0 : Nat) : Int)), .val (.int .u8 ((0 : Nat) : Int)), .val (.int .u8 ((0 : Nat) : Int)), .val (.int .u8 ((0 : Nat) : Int)), .val (.int .u8 ((0 : Nat) : Int)), .val (.int .u8 ((0 : Nat) : Int)), .val (.int .u8 ((0 : Nat) : Int)), .val (.int .u8 ((0 : Nat) : Int)), .val (.int .u8 ((0 : Nat) : Int)), .val (.int .u8 ((0 : Nat) : Int)), .val (.int .u8 ((0 : Nat) : Int)), .val (.int .u8 ((0 : Nat) : Int))]) [⟨0, .t 43⟩]), none⟩,
   so_ 45 (.app 20 20 40 (.t 42) (.t 44)),
   mv_ 12 45] [8, 11, 12, 34])
 (.skip))))))
def Q8 : Af := .block 0 (.own 12 20 (.loop [8, 11, 12, 34] QV))
def Qq : Af := .seq (.ops [mv_ 46 8,
  mv_ 47 12,
  so_ 48 (.call 33 [.t 46, .t 47]),
  mv_ 6 48,
  po_ 7 (.mov (.c .nilIface))] [6, 7])
 (.ret)
def Rk : Af := .seq (.seq (.ops [mv_ 33 10,
  so_ 34 (.rngM (.t 33))] [8, 11, 12, 34])
 Q8)
 Qq
def Kr : Af := .seq (.ops [po_ 12 (.mov (.c (.slice none 0 0)))] [8, 10, 11, 12])
 Rk
def Q3 : Af := .seq (.sdraw 6 [mv_ 25 8,
  po_ 26 (.load true 20 (.t 4)),
  ⟨some 27, .p (.bsl 20 1 (.arr 20 1 [.val (.int .u8 ((0 : Nat) : Int)), .val (.int .u8 ((0 : Nat) : Int)), .val (.int .u8 ((0 : Nat) : Int)), .val (.int .u8 ((0 : Nat) : Int)), .val (.int .u8 ((0 : Nat) : Int)), .val (.int .u8 ((0 : Nat) : Int)), .val (.int .u8 ((0 : Nat) : Int)), .val (.int .u8 ((0 : Nat) : Int)), .val (.int .u8 ((0 : Nat) : Int)), .val (.int .u8 ((0 : Nat) : Int)), .val (.int .u8 ((0 : Nat) : Int)), .val (.int .u8 ((0 : Nat) : Int)), .val (.int .u8 ((0 : Nat) : Int)), .val (.int .u8 ((0 : Nat) : Int)), .val (.int .u8 ((0 : Nat) : Int)), .val (.int .u8 ((0 : Nat) : Int)), .val (.int .u8 ((0 : Nat) : Int)), .val (.int .u8 ((0 : Nat) : Int)), .val (.int .u8 ((0 : Nat) : Int)), .val (.int .u8 ((0 : Nat) : Int))]) [⟨0, .t 26⟩]), none⟩,
  mv_ 29 8,
  po_ 30 (.load true 20 (.t 5)),
  ⟨some 31, .p (.bsl 20 1 (.arr 20 1 [.val (.int .u8 ((0 : Nat) : Int)), .val (.int .u8 ((0 : Nat) : Int)), .val (.int .u8 ((0 : Nat) : Int)), .val (.int .u8 ((0 : Nat) : Int)), .val (.int .u8 ((0 : Nat) : Int)), .val (.int .u8 ((0 : Nat) : Int)), .val (.int .u8 ((0 : Nat) : Int)), .val (.int .u8 ((0 : Nat) : Int)), .val (.int .u8 ((0 : Nat) : Int)), .val (.int .u8 ((0 : Nat) : Int)), .val (.int .u8 ((0 : Nat) : Int)), .val (.int .u8 ((0 : Nat) : Int)), .val (.int .u8 ((0 : Nat) : Int)), .val (.int .u8 ((0 : Nat) : Int)), .val (.int .u8 ((0 : Nat) : Int)), .val (.int .u8 ((0 : Nat) : Int)), .val (.int .u8 ((0 : Nat) : Int)), .val (.int .u8 ((0 : Nat) : Int)), .val (.int .u8 ((0 : Nat) : Int)), .val (.int .u8 ((0 : Nat) : Int))]) [⟨0, .t 30⟩]), none⟩,
  so_ 28 (.call 21 [.t 25, .t 27]),
  so_ 32 (.call 21 [.t 29, .t 31]),
  mv_ 10 28,
  mv_ 11 32] [8, 10, 11])
 Kr
def Qs : Af := .seq (.seq (.ops [mv_ 22 9,
  po_ 23 (.eqN 1 (.t 22) (.c .nilIface) true)] [4, 5, 8, 9, 23])
 (.cond (.t 23)
 (.seq (.ops [mv_ 24 9,
   po_ 6 (.mov (.c (.slice none 0 0))),
   mv_ 7 24] [6, 7])
  (.ret))
 (.skip)))
 Q3
def Qw : Af := .seq (.opsZ [mv_ 15 0,
  po_ 16 (.load true 20 (.t 4)),
  po_ 17 (.load true 20 (.t 5)),
  ⟨some 18, .s (.bslice 20 2 (.arr 20 1 [.val (.int .u8 ((0 : Nat) : Int)), .val (.int .u8 ((0 : Nat) : Int)), .val (.int .u8 ((0 : Nat) : Int)), .val (.int .u8 ((0 : Nat) : Int)), .val (.int .u8 ((0 : Nat) : Int)), .val (.int .u8 ((0 : Nat) : Int)), .val (.int .u8 ((0 : Nat) : Int)), .val (.int .u8 ((0 : Nat) : Int)), .val (.int .u8 ((0 : Nat) : Int)), .val (.int .u8 ((0 : Nat) : Int)), .val (.int .u8 ((0 : Nat) : Int)), .val (.int .u8 ((0 : Nat) : Int)), .val (.int .u8 ((0 : Nat) : Int)), .val (.int .u8 ((0 : Nat) : Int)), .val (.int .u8 ((0 : Nat) : Int)), .val (.int .u8 ((0 : Nat) : Int)), .val (.int .u8 ((0 : Nat) : Int)), .val (.int .u8 ((0 : Nat) : Int)), .val (.int .u8 ((0 : Nat) : Int)), .val (.int .u8 ((0 : Nat) : Int))]) [⟨0, .t 16⟩, ⟨1, .t 17⟩]), none⟩] [18] [so_ 19 (.call 19 [.t 15, .t 18]),
  mv_ 14 19,
  po_ 20 (.ext 0 (.t 14)),
  po_ 21 (.ext 1 (.t 14)),
  mv_ 8 20,
  mv_ 9 21] [4, 5, 8, 9])
 Qs
def XD : Af := .seq (.ops [so_ 4 (.box (.t 1)),
  so_ 5 (.box (.t 2)),
  po_ 6 (.mov (.c (.slice none 0 0))),
  po_ 7 (.mov (.c .nilIface))] [0, 4, 5])
 Qw
def Pv : List VR := [.tmp 6, .tmp 7]
theorem Abu : Tryd.f15.body.bind (trC Tryd.prog Tryd.f15.ntmps) = some (er XD) := by kernel_rfl
theorem Aa9 : trR Tryd.prog Tryd.f15.results.toList = some Pv := by kernel_rfl
def Xf := Ac QV.eq_1
def WP := Ac Q8.eq_1
def WB := Ac Qq.eq_1
def XE := Ac Rk.eq_1
def Wj := Ac Kr.eq_1
def MO := Ac Q3.eq_1
def Nb := Ac Qs.eq_1
def Iu := Ac Qw.eq_1
def LC := Ac XD.eq_1
theorem Sl {K : TV → Prop} {e : Env} {H : List Ob} : res Pv e H K = res [.tmp 6, .tmp 7] e H K := Aa rfl
def Cm := (And.intro (And.intro (And.intro (And.intro @Xf @WP) (And.intro @WB @XE)) (And.intro (And.intro @Wj @MO) (And.intro @Nb @Iu))) (And.intro @LC @Sl))
def Aaj := ET 49 Tryd.func15 Abu Aa9 rfl

def OV : Af := .seq (.ops [mv_ 9 0,
  mv_ 10 1,
  so_ 11 (.call 19 [.t 9, .t 10]),
  mv_ 8 11,
  po_ 12 (.ext 0 (.t 8)),
  po_ 13 (.ext 1 (.t 8)),
  mv_ 6 12,
  mv_ 7 13] [1, 6, 7])
 (.seq (.seq (.ops [mv_ 14 7,
  po_ 15 (.eqN 1 (.t 14) (.c .nilIface) true)] [1, 6, 7, 15])
 (.cond (.t 15)
 (.seq (.ops [mv_ 16 7,
   po_ 4 (.mov (.c (.slice none 0 0))),
   mv_ 5 16] [4, 5])
  (.ret))
 (.skip)))
 (.seq (.ops [mv_ 17 6,
  mv_ 18 1,
  so_ 19 (.call 33 [.t 17, .t 18]),
  mv_ 4 19,
  po_ 5 (.mov (.c .nilIface))] [4, 5])
 (.ret)))
def UK : Af := .seq (.ops [po_ 4 (.mov (.c (.slice none 0 0))),
  po_ 5 (.mov (.c .nilIface))] [0, 1])
 OV
def UH : List VR := [.tmp 4, .tmp 5]
theorem Aah : Tryd.f17.body.bind (trC Tryd.prog Tryd.f17.ntmps) = some (er UK) := by kernel_rfl
theorem Aae : trR Tryd.prog Tryd.f17.results.toList = some UH := by kernel_rfl
def Va := Ac OV.eq_1
def YQ := Ac UK.eq_1
theorem Y1 {K : TV → Prop} {e : Env} {H : List Ob} : res UH e H K = res [.tmp 4, .tmp 5] e H K := Aa rfl
def FT := (And.intro (And.intro @Va @YQ) @Y1)
def Zy := ET 20 Tryd.func17 Aah Aae rfl

def VW : Af := .seq (.seq (.ops [mv_ 13 7,
  po_ 14 (.eqN 1 (.t 13) (.c .nilIface) false),
  mv_ 15 14,
  ⟨some 16, .p (.mov (.t 6)), some ⟨15, true⟩⟩,
  ⟨some 17, .p (.mov (.t 1)), some ⟨15, true⟩⟩,
  ⟨some 18, .s (.call 36 [.t 16, .t 17]), some ⟨15, true⟩⟩,
  ⟨some 19, .p (.un .not (.t 18)), some ⟨15, true⟩⟩,
  po_ 20 (.pick (.t 15) (.t 19) (.c (.bool false)))] [6, 7, 20])
 (.cond (.t 20)
 (.ops [po_ 21 (.iface 36 (ci_ 80)),
   mv_ 7 21] [6, 7])
 (.skip)))
 (.seq (.ops [mv_ 22 6,
  mv_ 23 7,
  mv_ 4 22,
  mv_ 5 23] [4, 5])
 (.ret))
def Xn : Af := .seq (.ops [mv_ 9 0,
  so_ 10 (.call 35 [.t 9]),
  mv_ 8 10,
  po_ 11 (.ext 0 (.t 8)),
  po_ 12 (.ext 1 (.t 8)),
  mv_ 6 11,
  mv_ 7 12] [1, 6, 7])
 VW
def AaM : Af := .seq (.ops [po_ 4 (.mov (.c (.pointer none))),
  po_ 5 (.mov (.c .nilIface))] [0, 1])
 Xn
def AaC : List VR := [.tmp 4, .tmp 5]
theorem Afc : Tryd.f19.body.bind (trC Tryd.prog Tryd.f19.ntmps) = some (er AaM) := by kernel_rfl
theorem AfD : trR Tryd.prog Tryd.f19.results.toList = some AaC := by kernel_rfl
def Zp := Ac VW.eq_1
def Zv := Ac Xn.eq_1
def AbH := Ac AaM.eq_1
theorem Ab2 {K : TV → Prop} {e : Env} {H : List Ob} : res AaC e H K = res [.tmp 4, .tmp 5] e H K := Aa rfl
def Oo := (And.intro (And.intro @Zp @Zv) (And.intro @AbH @Ab2))
def AdJ := ET 24 Tryd.func19 Afc AfD rfl

def IM : Af := .seq (.ops [mv_ 29 5,
  po_ 30 (.load true 20 (.t 7)),
  po_ 31 (.build [] [] []),
  ⟨none, .s (.mupd (.arr 20) (.t 29) (.t 30) (.t 31)), none⟩] [0, 5, 6, 7])
 (.draw 5 [mv_ 32 6,
  mv_ 33 0,
  po_ 34 (.nilc (.t 33)),
  po_ 35 (.fieldA 0 0 (.t 34)),
  po_ 36 (.load false 1 (.t 35)),
  po_ 37 (.load true 20 (.t 7)),
  po_ 38 (.gen (.look (.arr 20) (.agg [.arr 20 1 [.val (.int .u8 ((0 : Nat) : Int)), .val (.int .u8 ((0 : Nat) : Int)), .val (.int .u8 ((0 : Nat) : Int)), .val (.int .u8 ((0 : Nat) : Int)), .val (.int .u8 ((0 : Nat) : Int)), .val (.int .u8 ((0 : Nat) : Int)), .val (.int .u8 ((0 : Nat) : Int)), .val (.int .u8 ((0 : Nat) : Int)), .val (.int .u8 ((0 : Nat) : Int)), .val (.int .u8 ((0 : Nat) : Int)), .val (.int .u8 ((0 : Nat) : Int)), .val (.int .u8 ((0 : Nat) : Int)), .val (.int .u8 ((0 : Nat) : Int)), .val (.int .u8 ((0 : Nat) : Int)), .val (.int .u8 ((0 : Nat) : Int)), .val (.int .u8 ((0 : Nat) : Int)), .val (.int .u8 ((0 : Nat) : Int)), .val (.int .u8 ((0 : Nat) : Int)), .val (.int .u8 ((0 : Nat) : Int)), .val (.int .u8 ((0 : Nat) : Int))], .val (.slice none 0 0), .val (.int .i64 ((0 : Nat) : Int))]) false) [.t 36, .t 37]),
  po_ 39 (.field false 1 1 20 (.t 38)),
  so_ 40 (.app 20 20 40 (.t 32) (.t 39)),
  mv_ 6 40] [0, 5, 6])
def I7 : Af := .cond (.t 28)
 IM
 (.skip)
def IZ : Af := .seq (.ops [mv_ 25 5,
  po_ 26 (.load true 20 (.t 7)),
  so_ 27 (.call 25 [.t 25, .t 26]),
  po_ 28 (.un .not (.t 27))] [0, 5, 6, 7, 28])
 I7
def IV : Af := .seq (.ops [mv_ 20 6,
  mv_ 21 6,
  po_ 22 (.lenV (.t 21)),
  po_ 23 (.bin 3 .sub (.t 22) (ci_ 1)),
  po_ 24 (.slV 20 (.t 20) none (some (.t 23))),
  mv_ 6 24] [0, 5, 6, 7])
 IZ
def IK : Af := .block 1 (.seq (.ops [mv_ 14 6,
  mv_ 15 6,
  po_ 16 (.lenV (.t 15)),
  po_ 17 (.bin 3 .sub (.t 16) (ci_ 1)),
  po_ 18 (.idxA 20 (.t 14) (.t 17)),
  po_ 19 (.load true 20 (.t 18)),
  so_ 7 (.alloc (.arr 20 1 [.val (.int .u8 ((0 : Nat) : Int)), .val (.int .u8 ((0 : Nat) : Int)), .val (.int .u8 ((0 : Nat) : Int)), .val (.int .u8 ((0 : Nat) : Int)), .val (.int .u8 ((0 : Nat) : Int)), .val (.int .u8 ((0 : Nat) : Int)), .val (.int .u8 ((0 : Nat) : Int)), .val (.int .u8 ((0 : Nat) : Int)), .val (.int .u8 ((0 : Nat) : Int)), .val (.int .u8 ((0 : Nat) : Int)), .val (.int .u8 ((0 : Nat) : Int)), .val (.int .u8 ((0 : Nat) : Int)), .val (.int .u8 ((0 : Nat) : Int)), .val (.int .u8 ((0 : Nat) : Int)), .val (.int .u8 ((0 : Nat) : Int)), .val (.int .u8 ((0 : Nat) : Int)), .val (.int .u8 ((0 : Nat) : Int)), .val (.int .u8 ((0 : Nat) : Int)), .val (.int .u8 ((0 : Nat) : Int)), .val (.int .u8 ((0 : Nat) : Int))])),
  ⟨none, .s (.store 20 (.t 7) (.t 19)), none⟩] [0, 5, 6, 7])
 IV)
def EM : Af := .seq (.seq (.ops [mv_ 11 6,
  po_ 12 (.lenV (.t 11)),
  po_ 13 (.bin 3 .gtr (.t 12) (ci_ 0))] [0, 5, 6, 13])
 (.cond (.t 13)
 (.skip)
 (.exit 0)))
 IK
def EK : Af := .seq (.ops [mv_ 41 5,
  mv_ 4 41] [4])
 (.ret)
def IP : Af := .seq (.block 0 (.own 6 20 (.loop [0, 5, 6] EM)))
 EK
def IX : Af := .seq (.ops [mv_ 9 1,
  so_ 10 (.call 38 [.t 9]),
  mv_ 6 10] [0, 5, 6])
 IP
def Iw : Af := .seq (.ops [so_ 8 (.mkm (.arr 20) none),
  mv_ 5 8] [0, 1, 5])
 IX
def Lu : Af := .seq (.ops [po_ 4 (.mov (.c (.map none)))] [0, 1])
 Iw
def Gv : List VR := [.tmp 4]
theorem VG : Tryd.f21.body.bind (trC Tryd.prog Tryd.f21.ntmps) = some (er Lu) := by kernel_rfl
theorem U7 : trR Tryd.prog Tryd.f21.results.toList = some Gv := by kernel_rfl
def NY := Ac IM.eq_1
def OQ := Ac I7.eq_1
def Oj := Ac IZ.eq_1
def OJ := Ac IV.eq_1
def OO := Ac IK.eq_1
def NV := Ac EM.eq_1
def N9 := Ac EK.eq_1
def O4 := Ac IP.eq_1
def OX := Ac IX.eq_1
def Nz := Ac Iw.eq_1
def Tc := Ac Lu.eq_1
theorem TR {K : TV → Prop} {e : Env} {H : List Ob} : res Gv e H K = res [.tmp 4] e H K := Aa rfl
def Bv := (And.intro (And.intro (And.intro (And.intro @NY @OQ) (And.intro @Oj @OJ)) (And.intro (And.intro @OO @NV) (And.intro @N9 @O4))) (And.intro (And.intro @OX @Nz) (And.intro @Tc @TR)))
def UA := ET 42 Tryd.func21 VG U7 rfl

def Ie : Af := .seq (.block 1 (.seq (.ops [po_ 19 (.idxA 20 (.t 15) (.t 17)),
  po_ 20 (.load true 20 (.t 19)),
  so_ 7 (.alloc (.arr 20 1 [.val (.int .u8 ((0 : Nat) : Int)), .val (.int .u8 ((0 : Nat) : Int)), .val (.int .u8 ((0 : Nat) : Int)), .val (.int .u8 ((0 : Nat) : Int)), .val (.int .u8 ((0 : Nat) : Int)), .val (.int .u8 ((0 : Nat) : Int)), .val (.int .u8 ((0 : Nat) : Int)), .val (.int .u8 ((0 : Nat) : Int)), .val (.int .u8 ((0 : Nat) : Int)), .val (.int .u8 ((0 : Nat) : Int)), .val (.int .u8 ((0 : Nat) : Int)), .val (.int .u8 ((0 : Nat) : Int)), .val (.int .u8 ((0 : Nat) : Int)), .val (.int .u8 ((0 : Nat) : Int)), .val (.int .u8 ((0 : Nat) : Int)), .val (.int .u8 ((0 : Nat) : Int)), .val (.int .u8 ((0 : Nat) : Int)), .val (.int .u8 ((0 : Nat) : Int)), .val (.int .u8 ((0 : Nat) : Int)), .val (.int .u8 ((0 : Nat) : Int))])),
  ⟨none, .s (.store 20 (.t 7) (.t 20)), none⟩] [0, 1, 5, 7, 15, 16, 17])
 (.draw 5 [mv_ 21 5,
  mv_ 22 0,
  po_ 23 (.nilc (.t 22)),
  po_ 24 (.fieldA 0 0 (.t 23)),
  po_ 25 (.load false 1 (.t 24)),
  po_ 26 (.load true 20 (.t 7)),
  po_ 27 (.gen (.look (.arr 20) (.agg [.arr 20 1 [.val (.int .u8 ((0 : Nat) : Int)), .val (.int .u8 ((0 : Nat) : Int)), .val (.int .u8 ((0 : Nat) : Int)), .val (.int .u8 ((0 : Nat) : Int)), .val (.int .u8 ((0 : Nat) : Int)), .val (.int .u8 ((0 : Nat) : Int)), .val (.int .u8 ((0 : Nat) : Int)), .val (.int .u8 ((0 : Nat) : Int)), .val (.int .u8 ((0 : Nat) : Int)), .val (.int .u8 ((0 : Nat) : Int)), .val (.int .u8 ((0 : Nat) : Int)), .val (.int .u8 ((0 : Nat) : Int)), .val (.int .u8 ((0 : Nat) : Int)), .val (.int .u8 ((0 : Nat) : Int)), .val (.int .u8 ((0 : Nat) : Int)), .val (.int .u8 ((0 : Nat) : Int)), .val (.int .u8 ((0 : Nat) : Int)), .val (.int .u8 ((0 : Nat) : Int)), .val (.int .u8 ((0 : Nat) : Int)), .val (.int .u8 ((0 : Nat) : Int))], .val (.slice none 0 0), .val (.int .i64 ((0 : Nat) : Int))]) false) [.t 25, .t 26]),
  po_ 28 (.field false 1 1 20 (.t 27)),
  so_ 29 (.app 20 20 40 (.t 21) (.t 28)),
  mv_ 5 29] [0, 1, 5, 15, 16, 17])))
 (.ops [po_ 30 (.bin 3 .add (.t 17) (ci_ 1)),
  mv_ 17 30] [0, 1, 5, 15, 16, 17])
def H5 : Af := .seq (.cond (.t 18)
 (.skip)
 (.exit 0))
 Ie
def Ib : Af := .seq (.ops [po_ 18 (.bin 3 .lss (.t 17) (.t 16))] [0, 1, 5, 15, 16, 17, 18])
 H5
def H9 : Af := .block 0 (.own 5 20 (.loop [0, 1, 5, 15, 16, 17] Ib))
def Io : Af := .seq (.ops [mv_ 31 0,
  mv_ 32 5,
  so_ 33 (.call 21 [.t 31, .t 32]),
  mv_ 8 33] [1, 8])
 (.seq (.ops [mv_ 34 1,
  mv_ 35 8,
  po_ 36 (.mkf (.func 25) [.t 35] []),
  so_ 37 (.call 49 [.t 34, .t 36]),
  mv_ 4 37] [4])
 (.ret))
def Iq : Af := .seq (.seq (.ops [mv_ 15 1,
  po_ 16 (.lenV (.t 15)),
  po_ 17 (.mov (ci_ 0))] [0, 1, 5, 15, 16, 17])
 H9)
 Io
def Cf : Af := .seq (.ops [po_ 5 (.mov (.c (.slice none 0 0)))] [0, 1, 5])
 Iq
def H8 : Af := .seq (.ops [mv_ 13 1,
  so_ 14 (.call 48 [.t 13]),
  mv_ 1 14] [0, 1])
 Cf
def Ih : Af := .seq (.ops [mv_ 11 1,
  so_ 12 (.call 45 [.t 11, .c (.func (.func 46) #[] #[])])] [0, 1])
 H8
def GZ : Af := .seq (.ops [mv_ 9 1,
  so_ 10 (.call 38 [.t 9]),
  mv_ 1 10] [0, 1])
 Ih
def KJ : Af := .seq (.ops [po_ 4 (.mov (.c (.slice none 0 0)))] [0, 1])
 GZ
def Eo : List VR := [.tmp 4]
theorem UC : Tryd.f33.body.bind (trC Tryd.prog Tryd.f33.ntmps) = some (er KJ) := by kernel_rfl
theorem Ul : trR Tryd.prog Tryd.f33.results.toList = some Eo := by kernel_rfl
def NL := Ac Ie.eq_1
def NK := Ac H5.eq_1
def NM := Ac Ib.eq_1
def NC := Ac H9.eq_1
def Ny := Ac Io.eq_1
def NI := Ac Iq.eq_1
def NG := Ac Cf.eq_1
def Eb := Ac H8.eq_1
def Ec := Ac Ih.eq_1
def DD := Ac GZ.eq_1
def RJ := Ac KJ.eq_1
theorem RU {K : TV → Prop} {e : Env} {H : List Ob} : res Eo e H K = res [.tmp 4] e H K := Aa rfl
def AV := (And.intro (And.intro (And.intro (And.intro @NL @NK) (And.intro @NM @NC)) (And.intro (And.intro @Ny @NI) (And.intro @NG @Eb))) (And.intro (And.intro @Ec @DD) (And.intro @RJ @RU)))
def Tv := ET 38 Tryd.func33 UC Ul rfl

def SI : Af := .seq (.ops [so_ 3 (.box (.t 1)),
  po_ 4 (.mov (.c (.bool false)))] [0, 3])
 (.seq (.ops [mv_ 8 0,
  po_ 9 (.load true 20 (.t 3)),
  po_ 10 (.gen (.look (.arr 20) (.agg []) true) [.t 8, .t 9]),
  mv_ 7 10,
  po_ 11 (.ext 0 (.t 7)),
  po_ 12 (.ext 1 (.t 7)),
  so_ 5 (.alloc (.agg [])),
  ⟨none, .s (.store 0 (.t 5) (.t 11)), none⟩,
  mv_ 6 12] [6])
 (.seq (.ops [mv_ 13 6,
  mv_ 4 13] [4])
 (.ret)))
def SS : List VR := [.tmp 4]
theorem Zd : Tryd.f25.body.bind (trC Tryd.prog Tryd.f25.ntmps) = some (er SI) := by kernel_rfl
theorem ZG : trR Tryd.prog Tryd.f25.results.toList = some SS := by kernel_rfl
def Yr := Ac SI.eq_1
theorem X4 {K : TV → Prop} {e : Env} {H : List Ob} : res SS e H K = res [.tmp 4] e H K := Aa rfl
def Ia := (And.intro @Yr @X4)
def Qx := ET 14 Tryd.func25 Zd ZG rfl

def Ls : Af := .seq (.ops [so_ 2 (.box (.t 0)),
  po_ 4 (.mov (.c (.bool false)))] [1, 2])
 (.seq (.ops [mv_ 5 1,
  po_ 6 (.mkf (.func 51) [] [.t 2]),
  so_ 7 (.call 50 [.t 5, .t 6]),
  po_ 8 (.un .not (.t 7)),
  mv_ 4 8] [4])
 (.ret))
def Ll : List VR := [.tmp 4]
theorem U1 : Tryd.f36.body.bind (trC Tryd.prog Tryd.f36.ntmps) = some (er Ls) := by kernel_rfl
theorem Vw : trR Tryd.prog Tryd.f36.results.toList = some Ll := by kernel_rfl
def TG := Ac Ls.eq_1
theorem TU {K : TV → Prop} {e : Env} {H : List Ob} : res Ll e H K = res [.tmp 4] e H K := Aa rfl
def Ld := (And.intro @TG @TU)
def Um := ET 9 Tryd.func36 U1 Vw rfl

def GM : Af := .seq (.draw 9 [po_ 7 (.load false 1 (.t 1)),
  po_ 8 (.nilc (.t 7)),
  po_ 9 (.fieldA 0 0 (.t 8)),
  po_ 10 (.load false 1 (.t 9)),
  po_ 11 (.load true 20 (.t 2)),
  po_ 12 (.gen (.look (.arr 20) (.agg [.arr 20 1 [.val (.int .u8 ((0 : Nat) : Int)), .val (.int .u8 ((0 : Nat) : Int)), .val (.int .u8 ((0 : Nat) : Int)), .val (.int .u8 ((0 : Nat) : Int)), .val (.int .u8 ((0 : Nat) : Int)), .val (.int .u8 ((0 : Nat) : Int)), .val (.int .u8 ((0 : Nat) : Int)), .val (.int .u8 ((0 : Nat) : Int)), .val (.int .u8 ((0 : Nat) : Int)), .val (.int .u8 ((0 : Nat) : Int)), .val (.int .u8 ((0 : Nat) : Int)), .val (.int .u8 ((0 : Nat) : Int)), .val (.int .u8 ((0 : Nat) : Int)), .val (.int .u8 ((0 : Nat) : Int)), .val (.int .u8 ((0 : Nat) : Int)), .val (.int .u8 ((0 : Nat) : Int)), .val (.int .u8 ((0 : Nat) : Int)), .val (.int .u8 ((0 : Nat) : Int)), .val (.int .u8 ((0 : Nat) : Int)), .val (.int .u8 ((0 : Nat) : Int))], .val (.slice none 0 0), .val (.int .i64 ((0 : Nat) : Int))]) true) [.t 10, .t 11]),
  mv_ 6 12,
  po_ 13 (.ext 0 (.t 6)),
  po_ 14 (.ext 1 (.t 6)),
  so_ 4 (.alloc (.agg [.arr 20 1 [.val (.int .u8 ((0 : Nat) : Int)), .val (.int .u8 ((0 : Nat) : Int)), .val (.int .u8 ((0 : Nat) : Int)), .val (.int .u8 ((0 : Nat) : Int)), .val (.int .u8 ((0 : Nat) : Int)), .val (.int .u8 ((0 : Nat) : Int)), .val (.int .u8 ((0 : Nat) : Int)), .val (.int .u8 ((0 : Nat) : Int)), .val (.int .u8 ((0 : Nat) : Int)), .val (.int .u8 ((0 : Nat) : Int)), .val (.int .u8 ((0 : Nat) : Int)), .val (.int .u8 ((0 : Nat) : Int)), .val (.int .u8 ((0 : Nat) : Int)), .val (.int .u8 ((0 : Nat) : Int)), .val (.int .u8 ((0 : Nat) : Int)), .val (.int .u8 ((0 : Nat) : Int)), .val (.int .u8 ((0 : Nat) : Int)), .val (.int .u8 ((0 : Nat) : Int)), .val (.int .u8 ((0 : Nat) : Int)), .val (.int .u8 ((0 : Nat) : Int))], .val (.slice none 0 0), .val (.int .i64 ((0 : Nat) : Int))])),
  ⟨none, .s (.store 22 (.t 4) (.t 13)), none⟩,
  mv_ 5 14] [5])
 (.seq (.ops [mv_ 15 5,
  po_ 16 (.un .not (.t 15)),
  mv_ 3 16] [3])
 (.ret))
def Jy : Af := .seq (.ops [so_ 2 (.box (.t 0)),
  po_ 3 (.mov (.c (.bool false)))] [1, 2])
 GM
def Js : List VR := [.tmp 3]
theorem TA : Tryd.f51.body.bind (trC Tryd.prog Tryd.f51.ntmps) = some (er Jy) := by kernel_rfl
theorem SN : trR Tryd.prog Tryd.f51.results.toList = some Js := by kernel_rfl
def Mc := Ac GM.eq_1
def PE := Ac Jy.eq_1
theorem PV {K : TV → Prop} {e : Env} {H : List Ob} : res Js e H K = res [.tmp 3] e H K := Aa rfl
def Jp := (And.intro (And.intro @Mc @PE) @PV)
def RI := ET 17 Tryd.func51 TA SN rfl







def UL : Af := .seq (.block 1 (.seq (.draw 4 [mv_ 17 0,
  mv_ 18 5,
  po_ 19 (.idxA 20 (.t 17) (.t 18)),
  po_ 20 (.load true 20 (.t 19)),
  mv_ 21 1,
  mv_ 22 5,
  po_ 23 (.idxA 20 (.t 21) (.t 22)),
  po_ 24 (.load true 20 (.t 23)),
  po_ 25 (.gen (.eqA 20 true) [.t 20, .t 24])] [0, 1, 5, 25])
 (.cond (.t 25)
 (.seq (.ops [po_ 4 (.mov (.c (.bool false)))] [4])
  (.ret))
 (.skip))))
 (.ops [mv_ 15 5,
  po_ 16 (.bin 3 .add (.t 15) (ci_ 1)),
  mv_ 5 16] [0, 1, 5])
def UM : Af := .seq (.seq (.ops [mv_ 11 5,
  mv_ 12 0,
  po_ 13 (.lenV (.t 12)),
  po_ 14 (.bin 3 .lss (.t 11) (.t 13))] [0, 1, 5, 14])
 (.cond (.t 14)
 (.skip)
 (.exit 0)))
 UL
def UN : Af := .block 0 (.loop [0, 1, 5] UM)
def UF : Af := .seq (.ops [po_ 4 (.mov (.c (.bool true)))] [4])
 (.ret)
def UE : Af := .seq (.seq (.ops [po_ 5 (.mov (ci_ 0))] [0, 1, 5])
 UN)
 UF
def UG : Af := .seq (.seq (.ops [mv_ 6 0,
  po_ 7 (.lenV (.t 6)),
  mv_ 8 1,
  po_ 9 (.lenV (.t 8)),
  po_ 10 (.bin 3 .neq (.t 7) (.t 9))] [0, 1, 10])
 (.cond (.t 10)
 (.seq (.ops [po_ 4 (.mov (.c (.bool false)))] [4])
  (.ret))
 (.skip)))
 UE
def ZR : Af := .seq (.ops [po_ 4 (.mov (.c (.bool false)))] [0, 1])
 UG
def Zt : List VR := [.tmp 4]
theorem AcU : Tryd.f11.body.bind (trC Tryd.prog Tryd.f11.ntmps) = some (er ZR) := by kernel_rfl
theorem Ado : trR Tryd.prog Tryd.f11.results.toList = some Zt := by kernel_rfl
def YZ := Ac UL.eq_1
def YV := Ac UM.eq_1
def YW := Ac UN.eq_1
def Y0 := Ac UF.eq_1
def YU := Ac UE.eq_1
def YR := Ac UG.eq_1
def AbB := Ac ZR.eq_1
theorem AaW {K : TV → Prop} {e : Env} {H : List Ob} : res Zt e H K = res [.tmp 4] e H K := Aa rfl
def LY := (And.intro (And.intro (And.intro @YZ @YV) (And.intro @YW @Y0)) (And.intro (And.intro @YU @YR) (And.intro @AbB @AaW)))
def YK := ET 26 Tryd.func11 AcU Ado rfl

def EP : Af := .seq (.ops [po_ 2 (.mov (.c (.slice none 0 0)))] [0])
 (.seq (.seq (.ops [mv_ 3 0,
  so_ 4 (.eqS (.t 3) false)] [0, 4])
 (.cond (.t 4)
 (.seq (.ops [po_ 2 (.mov (.c (.slice none 0 0)))] [2])
  (.ret))
 (.skip)))
 (.seq (.ops [so_ 5 (.bslice 20 0 (.arr 20 1 [.val (.int .u8 ((0 : Nat) : Int)), .val (.int .u8 ((0 : Nat) : Int)), .val (.int .u8 ((0 : Nat) : Int)), .val (.int .u8 ((0 : Nat) : Int)), .val (.int .u8 ((0 : Nat) : Int)), .val (.int .u8 ((0 : Nat) : Int)), .val (.int .u8 ((0 : Nat) : Int)), .val (.int .u8 ((0 : Nat) : Int)), .val (.int .u8 ((0 : Nat) : Int)), .val (.int .u8 ((0 : Nat) : Int)), .val (.int .u8 ((0 : Nat) : Int)), .val (.int .u8 ((0 : Nat) : Int)), .val (.int .u8 ((0 : Nat) : Int)), .val (.int .u8 ((0 : Nat) : Int)), .val (.int .u8 ((0 : Nat) : Int)), .val (.int .u8 ((0 : Nat) : Int)), .val (.int .u8 ((0 : Nat) : Int)), .val (.int .u8 ((0 : Nat) : Int)), .val (.int .u8 ((0 : Nat) : Int)), .val (.int .u8 ((0 : Nat) : Int))]) []),
  mv_ 6 0,
  so_ 7 (.app 20 20 40 (.t 5) (.t 6)),
  mv_ 2 7] [2])
 (.ret)))
def ER : List VR := [.tmp 2]
theorem KY : Tryd.f38.body.bind (trC Tryd.prog Tryd.f38.ntmps) = some (er EP) := by kernel_rfl
theorem KU : trR Tryd.prog Tryd.f38.results.toList = some ER := by kernel_rfl
def JL := Ac EP.eq_1
theorem JO {K : TV → Prop} {e : Env} {H : List Ob} : res ER e H K = res [.tmp 2] e H K := Aa rfl
def AA := (And.intro @JL @JO)
def Cc := ET 8 Tryd.func38 KY KU rfl

def D5 : Af := .seq (.ops [mv_ 45 0,
  mv_ 46 3,
  mv_ 47 4,
  mv_ 48 5,
  po_ 49 (.idxA 20 (.t 47) (.t 48)),
  po_ 50 (.load true 20 (.t 49)),
  po_ 51 (.idxA 20 (.t 45) (.t 46)),
  ⟨none, .s (.store 20 (.t 51) (.t 50)), none⟩] [0, 3, 4, 5])
 (.ops [mv_ 52 3,
  po_ 53 (.bin 3 .add (.t 52) (ci_ 1)),
  mv_ 3 53] [0, 3, 4, 5])
def DK : Af := .seq (.block 3 (.seq (.draw 5 [mv_ 35 4,
  mv_ 36 5,
  po_ 37 (.idxA 20 (.t 35) (.t 36)),
  po_ 38 (.load true 20 (.t 37)),
  mv_ 39 4,
  mv_ 40 5,
  po_ 41 (.bin 3 .sub (.t 40) (ci_ 1)),
  po_ 42 (.idxA 20 (.t 39) (.t 41)),
  po_ 43 (.load true 20 (.t 42)),
  po_ 44 (.gen (.eqA 20 true) [.t 38, .t 43])] [0, 3, 4, 5, 44])
 (.cond (.t 44)
 D5
 (.skip))))
 (.ops [mv_ 33 5,
  po_ 34 (.bin 3 .add (.t 33) (ci_ 1)),
  mv_ 5 34] [0, 3, 4, 5])
def DV : Af := .seq (.seq (.ops [mv_ 29 5,
  mv_ 30 4,
  po_ 31 (.lenV (.t 30)),
  po_ 32 (.bin 3 .lss (.t 29) (.t 31))] [0, 3, 4, 5, 32])
 (.cond (.t 32)
 (.skip)
 (.exit 2)))
 DK
def DR : Af := .block 2 (.loop [0, 3, 4, 5] DV)
def DW : Af := .seq (.ops [mv_ 54 0,
  mv_ 55 3,
  po_ 56 (.slV 20 (.t 54) (some (.t 55)) none),
  ⟨none, .s (.clrS 20 (.arr 20 1 [.val (.int .u8 ((0 : Nat) : Int)), .val (.int .u8 ((0 : Nat) : Int)), .val (.int .u8 ((0 : Nat) : Int)), .val (.int .u8 ((0 : Nat) : Int)), .val (.int .u8 ((0 : Nat) : Int)), .val (.int .u8 ((0 : Nat) : Int)), .val (.int .u8 ((0 : Nat) : Int)), .val (.int .u8 ((0 : Nat) : Int)), .val (.int .u8 ((0 : Nat) : Int)), .val (.int .u8 ((0 : Nat) : Int)), .val (.int .u8 ((0 : Nat) : Int)), .val (.int .u8 ((0 : Nat) : Int)), .val (.int .u8 ((0 : Nat) : Int)), .val (.int .u8 ((0 : Nat) : Int)), .val (.int .u8 ((0 : Nat) : Int)), .val (.int .u8 ((0 : Nat) : Int)), .val (.int .u8 ((0 : Nat) : Int)), .val (.int .u8 ((0 : Nat) : Int)), .val (.int .u8 ((0 : Nat) : Int)), .val (.int .u8 ((0 : Nat) : Int))]) (.t 56)), none⟩] [0, 3])
 (.seq (.ops [mv_ 57 0,
  mv_ 58 3,
  po_ 59 (.slV 20 (.t 57) none (some (.t 58))),
  mv_ 2 59] [2])
 (.ret))
def DN : Af := .seq (.seq (.ops [po_ 5 (.mov (ci_ 1))] [0, 3, 4, 5])
 DR)
 DW
def DY : Af := .seq (.ops [mv_ 26 0,
  mv_ 27 3,
  po_ 28 (.slV 20 (.t 26) (some (.t 27)) none),
  mv_ 4 28] [0, 3, 4])
 DN
def DX : Af := .cond (.t 25)
 DY
 (.skip)
def DF : Af := .ops [mv_ 14 3,
  po_ 15 (.bin 3 .add (.t 14) (ci_ 1)),
  mv_ 3 15] [0, 3]
def Dz : Af := .seq (.block 1 (.seq (.draw 5 [mv_ 16 0,
  mv_ 17 3,
  po_ 18 (.idxA 20 (.t 16) (.t 17)),
  po_ 19 (.load true 20 (.t 18)),
  mv_ 20 0,
  mv_ 21 3,
  po_ 22 (.bin 3 .sub (.t 21) (ci_ 1)),
  po_ 23 (.idxA 20 (.t 20) (.t 22)),
  po_ 24 (.load true 20 (.t 23)),
  po_ 25 (.gen (.eqA 20 false) [.t 19, .t 24])] [0, 3, 25])
 DX))
 DF
def DC : Af := .seq (.seq (.ops [mv_ 10 3,
  mv_ 11 0,
  po_ 12 (.lenV (.t 11)),
  po_ 13 (.bin 3 .lss (.t 10) (.t 12))] [0, 3, 13])
 (.cond (.t 13)
 (.skip)
 (.exit 0)))
 Dz
def Du : Af := .block 0 (.loop [0, 3] DC)
def Dw : Af := .seq (.ops [mv_ 60 0,
  mv_ 2 60] [2])
 (.ret)
def Dx : Af := .seq (.seq (.ops [po_ 3 (.mov (ci_ 1))] [0, 3])
 Du)
 Dw
def Dy : Af := .seq (.seq (.ops [mv_ 6 0,
  po_ 7 (.lenV (.t 6)),
  po_ 8 (.bin 3 .lss (.t 7) (ci_ 2))] [0, 8])
 (.cond (.t 8)
 (.seq (.ops [mv_ 9 0,
   mv_ 2 9] [2])
  (.ret))
 (.skip)))
 Dx
def EE : Af := .seq (.ops [po_ 2 (.mov (.c (.slice none 0 0)))] [0])
 Dy
def ED : List VR := [.tmp 2]
theorem JJ : Tryd.f48.body.bind (trC Tryd.prog Tryd.f48.ntmps) = some (er EE) := by kernel_rfl
theorem Jq : trR Tryd.prog Tryd.f48.results.toList = some ED := by kernel_rfl
def Gt := Ac D5.eq_1
def F7 := Ac DK.eq_1
def Gu := Ac DV.eq_1
def Gx := Ac DR.eq_1
def Gz := Ac DW.eq_1
def Gg := Ac DN.eq_1
def Gs := Ac DY.eq_1
def F8 := Ac DX.eq_1
def Gm := Ac DF.eq_1
def FY := Ac Dz.eq_1
def FP := Ac DC.eq_1
def FV := Ac Du.eq_1
def FX := Ac Dw.eq_1
def FW := Ac Dx.eq_1
def FU := Ac Dy.eq_1
def IB := Ac EE.eq_1
theorem Iz {K : TV → Prop} {e : Env} {H : List Ob} : res ED e H K = res [.tmp 2] e H K := Aa rfl
def Az := (And.intro (And.intro (And.intro (And.intro (And.intro @Gt @F7) (And.intro @Gu @Gx)) (And.intro (And.intro @Gz @Gg) (And.intro @Gs @F8))) (And.intro (And.intro (And.intro @Gm @FY) (And.intro @FP @FV)) (And.intro (And.intro @FX @FW) (And.intro @FU @IB)))) @Iz)
def Es := ET 61 Tryd.func48 JJ Jq rfl

def CO : Af := .seq (.ops [mv_ 30 0,
  mv_ 31 5,
  po_ 32 (.load true 20 (.t 7)),
  po_ 33 (.idxA 20 (.t 30) (.t 31)),
  ⟨none, .s (.store 20 (.t 33) (.t 32)), none⟩] [0, 1, 5, 6])
 (.ops [mv_ 34 5,
  po_ 35 (.bin 3 .add (.t 34) (ci_ 1)),
  mv_ 5 35] [0, 1, 5, 6])
def CP : Af := .seq (.block 1 (.seq (.ops [mv_ 22 0,
  mv_ 23 6,
  po_ 24 (.idxA 20 (.t 22) (.t 23)),
  po_ 25 (.load true 20 (.t 24)),
  so_ 7 (.alloc (.arr 20 1 [.val (.int .u8 ((0 : Nat) : Int)), .val (.int .u8 ((0 : Nat) : Int)), .val (.int .u8 ((0 : Nat) : Int)), .val (.int .u8 ((0 : Nat) : Int)), .val (.int .u8 ((0 : Nat) : Int)), .val (.int .u8 ((0 : Nat) : Int)), .val (.int .u8 ((0 : Nat) : Int)), .val (.int .u8 ((0 : Nat) : Int)), .val (.int .u8 ((0 : Nat) : Int)), .val (.int .u8 ((0 : Nat) : Int)), .val (.int .u8 ((0 : Nat) : Int)), .val (.int .u8 ((0 : Nat) : Int)), .val (.int .u8 ((0 : Nat) : Int)), .val (.int .u8 ((0 : Nat) : Int)), .val (.int .u8 ((0 : Nat) : Int)), .val (.int .u8 ((0 : Nat) : Int)), .val (.int .u8 ((0 : Nat) : Int)), .val (.int .u8 ((0 : Nat) : Int)), .val (.int .u8 ((0 : Nat) : Int)), .val (.int .u8 ((0 : Nat) : Int))])),
  ⟨none, .s (.store 20 (.t 7) (.t 25)), none⟩] [0, 1, 5, 6, 7])
 (.seq (.ops [mv_ 26 1,
  po_ 27 (.load true 20 (.t 7)),
  so_ 28 (.callv (.t 26) [.t 27]),
  po_ 29 (.un .not (.t 28))] [0, 1, 5, 6, 7, 29])
 (.cond (.t 29)
 CO
 (.skip)))))
 (.ops [mv_ 20 6,
  po_ 21 (.bin 3 .add (.t 20) (ci_ 1)),
  mv_ 6 21] [0, 1, 5, 6])
def CQ : Af := .seq (.seq (.ops [mv_ 16 6,
  mv_ 17 0,
  po_ 18 (.lenV (.t 17)),
  po_ 19 (.bin 3 .lss (.t 16) (.t 18))] [0, 1, 5, 6, 19])
 (.cond (.t 19)
 (.skip)
 (.exit 0)))
 CP
def CB : Af := .block 0 (.loop [0, 1, 5, 6] CQ)
def CJ : Af := .seq (.ops [mv_ 36 0,
  mv_ 37 5,
  po_ 38 (.slV 20 (.t 36) (some (.t 37)) none),
  ⟨none, .s (.clrS 20 (.arr 20 1 [.val (.int .u8 ((0 : Nat) : Int)), .val (.int .u8 ((0 : Nat) : Int)), .val (.int .u8 ((0 : Nat) : Int)), .val (.int .u8 ((0 : Nat) : Int)), .val (.int .u8 ((0 : Nat) : Int)), .val (.int .u8 ((0 : Nat) : Int)), .val (.int .u8 ((0 : Nat) : Int)), .val (.int .u8 ((0 : Nat) : Int)), .val (.int .u8 ((0 : Nat) : Int)), .val (.int .u8 ((0 : Nat) : Int)), .val (.int .u8 ((0 : Nat) : Int)), .val (.int .u8 ((0 : Nat) : Int)), .val (.int .u8 ((0 : Nat) : Int)), .val (.int .u8 ((0 : Nat) : Int)), .val (.int .u8 ((0 : Nat) : Int)), .val (.int .u8 ((0 : Nat) : Int)), .val (.int .u8 ((0 : Nat) : Int)), .val (.int .u8 ((0 : Nat) : Int)), .val (.int .u8 ((0 : Nat) : Int)), .val (.int .u8 ((0 : Nat) : Int))]) (.t 38)), none⟩] [0, 5])
 (.seq (.ops [mv_ 39 0,
  mv_ 40 5,
  po_ 41 (.slV 20 (.t 39) none (some (.t 40))),
  mv_ 4 41] [4])
 (.ret))
def CE : Af := .seq (.seq (.ops [mv_ 14 5,
  po_ 15 (.bin 3 .add (.t 14) (ci_ 1)),
  mv_ 6 15] [0, 1, 5, 6])
 CB)
 CJ
def CU : Af := .seq (.seq (.ops [mv_ 11 5,
  po_ 12 (.bin 3 .eql (.t 11) (.c (.int .i64 (-1))))] [0, 1, 5, 12])
 (.cond (.t 12)
 (.seq (.ops [mv_ 13 0,
   mv_ 4 13] [4])
  (.ret))
 (.skip)))
 CE
def CG : Af := .seq (.ops [mv_ 8 0,
  mv_ 9 1,
  so_ 10 (.call 58 [.t 8, .t 9]),
  mv_ 5 10] [0, 1, 5])
 CU
def DT : Af := .seq (.ops [po_ 4 (.mov (.c (.slice none 0 0)))] [0, 1])
 CG
def D6 : List VR := [.tmp 4]
theorem Hz : Tryd.f49.body.bind (trC Tryd.prog Tryd.f49.ntmps) = some (er DT) := by kernel_rfl
theorem HY : trR Tryd.prog Tryd.f49.results.toList = some D6 := by kernel_rfl
def E8 := Ac CO.eq_1
def Fb := Ac CP.eq_1
def E9 := Ac CQ.eq_1
def Fh := Ac CB.eq_1
def Fe := Ac CJ.eq_1
def Fg := Ac CE.eq_1
def Fa := Ac CU.eq_1
def Fj := Ac CG.eq_1
def F6 := Ac DT.eq_1
theorem GG {K : TV → Prop} {e : Env} {H : List Ob} : res D6 e H K = res [.tmp 4] e H K := Aa rfl
def Ar := (And.intro (And.intro (And.intro (And.intro @E8 @Fb) (And.intro @E9 @Fh)) (And.intro (And.intro @Fe @Fg) (And.intro @Fa @Fj))) (And.intro @F6 @GG))
def Dt := ET 42 Tryd.func49 Hz HY rfl

def CY : Af := .seq (.ops [po_ 4 (.mov (.c (.bool false)))] [0, 1])
 (.seq (.ops [mv_ 5 0,
  mv_ 6 1,
  so_ 7 (.call 58 [.t 5, .t 6]),
  po_ 8 (.bin 3 .geq (.t 7) (ci_ 0)),
  mv_ 4 8] [4])
 (.ret))
def CX : List VR := [.tmp 4]
theorem Gi : Tryd.f50.body.bind (trC Tryd.prog Tryd.f50.ntmps) = some (er CY) := by kernel_rfl
theorem Gj : trR Tryd.prog Tryd.f50.results.toList = some CX := by kernel_rfl
def FN := Ac CY.eq_1
theorem FD {K : TV → Prop} {e : Env} {H : List Ob} : res CX e H K = res [.tmp 4] e H K := Aa rfl
def Bz := (And.intro @FN @FD)
def FQ := ET 9 Tryd.func50 Gi Gj rfl

def Dj : Af := .seq (.ops [po_ 9 (.bin 3 .lss (.t 8) (.t 7))] [0, 1, 7, 8, 9])
 (.seq (.cond (.t 9)
 (.skip)
 (.exit 0))
 (.seq (.block 1 (.seq (.ops [mv_ 10 8,
  mv_ 5 10] [0, 1, 5, 7, 8])
 (.seq (.ops [mv_ 11 1,
  mv_ 12 0,
  mv_ 13 5,
  po_ 14 (.idxA 20 (.t 12) (.t 13)),
  po_ 15 (.load true 20 (.t 14)),
  so_ 16 (.callv (.t 11) [.t 15])] [0, 1, 5, 7, 8, 16])
 (.cond (.t 16)
 (.seq (.ops [mv_ 17 5,
   mv_ 4 17] [4])
  (.ret))
 (.skip)))))
 (.ops [po_ 18 (.bin 3 .add (.t 8) (ci_ 1)),
  mv_ 8 18] [0, 1, 7, 8])))
def CW : Af := .block 0 (.loop [0, 1, 7, 8] Dj)
def Di : Af := .seq (.ops [po_ 4 (.mov (.c (.int .i64 (-1))))] [4])
 (.ret)
def Dc : Af := .seq (.seq (.ops [mv_ 6 0,
  po_ 7 (.lenV (.t 6)),
  po_ 8 (.mov (ci_ 0))] [0, 1, 7, 8])
 CW)
 Di
def Em : Af := .seq (.ops [po_ 4 (.mov (ci_ 0))] [0, 1])
 Dc
def Ed : List VR := [.tmp 4]
theorem IE : Tryd.f58.body.bind (trC Tryd.prog Tryd.f58.ntmps) = some (er Em) := by kernel_rfl
theorem IC : trR Tryd.prog Tryd.f58.results.toList = some Ed := by kernel_rfl
def FH := Ac Dj.eq_1
def Fv := Ac CW.eq_1
def FC := Ac Di.eq_1
def FI := Ac Dc.eq_1
def Hl := Ac Em.eq_1
theorem Hq {K : TV → Prop} {e : Env} {H : List Ob} : res Ed e H K = res [.tmp 4] e H K := Aa rfl
def Am := (And.intro (And.intro (And.intro @FH @Fv) (And.intro @FC @FI)) (And.intro @Hl @Hq))
def BG := ET 19 Tryd.func58 IE IC rfl

end Go.Proofs.YtingoaihnlhiaaaDoor


namespace Go.Proofs.YtingoaihnlhiaaaDoor
open Go.RowKit
variable [Bc]
set_option linter.unusedSectionVars false
set_option linter.unusedVariables false
set_option linter.unusedSimpArgs false

/-- Is it the id of a node? -/
def AfJ (l : List Nd) (x : List UInt8) : Bool := (AL l).contains x
theorem MR {l : List Nd} {x : List UInt8} : AfJ l x = true ↔ x ∈ AL l := by simp [AfJ]
theorem Ap {α : Type} {H : List α} {i : Nat} {o : α} (h : H[i]? = some o) : i < H.length := (List.getElem?_eq_some_iff.1 h).1
theorem Tt {l : List Nd} (hn : (AL l).Nodup) (x : List UInt8) : (GL x (AZ l)).isSome = AfJ l x := by
 by_cases hx : x ∈ AL l
 ·obtain ⟨m, hm, rfl⟩ := List.mem_map.1 hx
  rw [EY hn hm, (MR).2 hx]; rfl
 ·rw [Zm hx hn]
  cases h : AfJ l x with
  | false => rfl
  | true => exact absurd (MR.1 h) hx

theorem Anh {l : List Nd} (hn : (AL l).Nodup) {H : List Ob} {c gi mi : Nat} (hc : H[c]? = some (.obj 0 (.op gi 0 []))) (hg : H[gi]? = some (.obj 0 (.agg [.mp mi 0, .val (.map none)]))) (hm : H[mi]? = some (.mpo (.arr 20) (AZ l))) (x : List UInt8) {K : TV → List Ob → Prop}
  (hK : ∀ T, K (tb (!AfJ l x)) (H ++ T)) : Aq Tryd.prog 51 [idT x, .op c 0 []] H K := by
 have h1 := Ap hc
 have h2 := Ap hg
 have h3 := Ap hm
 have h4 := Tt hn x
 refine RI (by simp) ?_
 cases hl : GL x (AZ l) with
 | none =>
  rw [hl] at h4
  simp -dsimp (disch := first | assumption | omega | (simp only [Ad]; done) | (simp only [Ad]; omega)) only [↓Ah, Ae, Ag, Ai, eq_self, forall_const, Nat.reduceLT, Nat.reduceEqDiff, Nat.reduceSub, Nat.reduceMul, Nat.reduceMod, Nat.reduceDiv, Nat.reducePow, UInt8.reduceToNat, Int.reduceEq, Int.reduceLT, Int.reduceLE, ↓reduceIte, Nat.reduceAdd, Int.reduceToNat, reduceCtorEq, Nat.reduceLeDiff, ↓Jp, hc, hg, hm, AP, hl]
  rw [← h4] at hK
  simp only [List.append_assoc]
  exact hK _
 | some y =>
  rw [hl] at h4
  have hy : ∃ n : Nd, y = ndT n := by
   by_cases hx : x ∈ AL l
   ·obtain ⟨m, hm, rfl⟩ := List.mem_map.1 hx
    rw [EY hn hm] at hl; cases hl; exact ⟨m, rfl⟩
   ·rw [Zm hx hn] at hl; cases hl
  obtain ⟨n, rfl⟩ := hy
  simp -dsimp (disch := first | assumption | omega | (simp only [Ad]; done) | (simp only [Ad]; omega)) only [↓Ah, Ae, Ag, Ai, eq_self, forall_const, Nat.reduceLT, Nat.reduceEqDiff, Nat.reduceSub, Nat.reduceMul, Nat.reduceMod, Nat.reduceDiv, Nat.reducePow, UInt8.reduceToNat, Int.reduceEq, Int.reduceLT, Int.reduceLE, ↓reduceIte, Nat.reduceAdd, Int.reduceToNat, reduceCtorEq, Nat.reduceLeDiff, ↓Jp, hc, hg, hm, AP, hl, Bf]
  rw [← h4] at hK
  simp only [List.append_assoc]
  exact hK _

theorem AaS {α : Type} {ids : List α} {p : α → Bool} {i : Nat} {x : α} (hg : ids[i]? = some x) (h : ∀ y ∈ ids.take i, p y = false) (hp : p x = true) : ids.findIdx p = i ∧ ids.any p = true := by
 obtain ⟨hi, rfl⟩ := List.getElem?_eq_some_iff.1 hg
 refine ⟨(List.findIdx_eq hi).2 ⟨hp, fun j hj => h _ ?_⟩, List.any_eq_true.2 ⟨_, List.getElem_mem hi, hp⟩⟩
 rw [List.mem_take_iff_getElem]
 exact ⟨j, by omega, rfl⟩
/-- slices.IndexFunc, slices.ContainsFunc: the function is asked of one behind the other; it leaves what was there aS it was. -/
theorem AeF {ids : List (List UInt8)} (hlen : ids.length ≤ 100000) {p : List UInt8 → Bool} {H : List Ob} {g : FuncId} {a caps : List TV} (hgo : Ue Tryd.prog g = true) (hp : ∀ x ∈ ids, ∀ T K, (∀ T', K (tb (p x)) (H ++ T ++ T')) → Aq Tryd.prog g (a ++ [idT x] ++ caps) (H ++ T) K) {K : TV → List Ob → Prop}
  (hK : ∀ T, K (i64 (if ids.any p then ((ids.findIdx p : Nat) : Int) else -1)) (H ++ T)) : Aq Tryd.prog 58 [.sl 20 (ids.map idT), .fn (.func g) a caps] H K := by
 refine BG (by simp) ?_
 simp -dsimp (disch := first | assumption | omega) only [↓Ah, Ae, Ag, Ai, eq_self, forall_const, Nat.reduceLT, Nat.reduceEqDiff, Nat.reduceSub, Nat.reduceMul, Nat.reduceMod, Nat.reduceDiv, Nat.reducePow, UInt8.reduceToNat, Int.reduceEq, Int.reduceLT, Int.reduceLE, ↓reduceIte, Nat.reduceAdd, Int.reduceToNat, reduceCtorEq, Nat.reduceLeDiff, ↓Am]
 refine BN (fun q e H' => ∃ (i : Nat) (T : List Ob), q = ids.length - i ∧ i ≤ ids.length ∧ (∀ x ∈ ids.take i, p x = false) ∧ e = [(0, .sl 20 (ids.map idT)), (1, .fn (.func g) a caps), (7, i64 (ids.length : Int)), (8, i64 (i : Int))] ∧ H' = H ++ T) ids.length ?_ ?_
 ·exact ⟨0, [], by simp, by simp, by simp, rfl, by simp⟩
 ·rintro q e H' ⟨i, T, rfl, hi, hno, rfl, rfl⟩
  by_cases h : i < ids.length
  ·have hg : ids[i]? = some ids[i] := List.getElem?_eq_getElem h
   have hsucc := List.take_succ_eq_append_getElem h
   have hpx := hp ids[i] (List.getElem_mem h) T
   generalize ids[i] = x at *
   simp -dsimp (disch := first | assumption | omega | (simp only [Ad]; done) | (simp only [Ad]; omega)) only [↓Ah, Ae, Ag, Ai, eq_self, forall_const, Nat.reduceLT, Nat.reduceEqDiff, Nat.reduceSub, Nat.reduceMul, Nat.reduceMod, Nat.reduceDiv, Nat.reducePow, UInt8.reduceToNat, Int.reduceEq, Int.reduceLT, Int.reduceLE, ↓reduceIte, Nat.reduceAdd, Int.reduceToNat, reduceCtorEq, Nat.reduceLeDiff, ↓Am, hg, hgo, BR, Ci, Be]
   refine BQ (hpx _ fun T' => ?_)
   by_cases hpt : p x = true
   ·rw [hpt]
    simp -dsimp (disch := first | assumption | omega | (simp only [Ad]; done) | (simp only [Ad]; omega)) only [↓Ah, Ae, Ag, Ai, eq_self, forall_const, Nat.reduceLT, Nat.reduceEqDiff, Nat.reduceSub, Nat.reduceMul, Nat.reduceMod, Nat.reduceDiv, Nat.reducePow, UInt8.reduceToNat, Int.reduceEq, Int.reduceLT, Int.reduceLE, ↓reduceIte, Nat.reduceAdd, Int.reduceToNat, reduceCtorEq, Nat.reduceLeDiff, ↓Am]
    obtain ⟨e1, e2⟩ := AaS hg hno hpt
    rw [if_pos e2, e1] at hK
    simp only [List.append_assoc]
    exact hK _
   ·have hpf : p x = false := by simpa using hpt
    rw [hpf]
    simp -dsimp (disch := first | assumption | omega | (simp only [Ad]; done) | (simp only [Ad]; omega)) only [↓Ah, Ae, Ag, Ai, eq_self, forall_const, Nat.reduceLT, Nat.reduceEqDiff, Nat.reduceSub, Nat.reduceMul, Nat.reduceMod, Nat.reduceDiv, Nat.reducePow, UInt8.reduceToNat, Int.reduceEq, Int.reduceLT, Int.reduceLE, ↓reduceIte, Nat.reduceAdd, Int.reduceToNat, reduceCtorEq, Nat.reduceLeDiff, ↓Am]
    refine AY (ids.length - (i + 1)) (by omega) (by simp) ⟨i + 1, T ++ T', rfl, by omega, fun y hy => ?_, by simp [forget, get], by simp⟩
    rw [hsucc, List.mem_append, List.mem_singleton] at hy
    rcases hy with hy | rfl
    ·exact hno y hy
    ·exact hpf
  ·have hi2 : i = ids.length := by omega
   subst hi2
   rw [List.take_length] at hno
   simp -dsimp (disch := first | assumption | omega | (simp only [Ad]; done) | (simp only [Ad]; omega)) only [↓Ah, Ae, Ag, Ai, eq_self, forall_const, Nat.reduceLT, Nat.reduceEqDiff, Nat.reduceSub, Nat.reduceMul, Nat.reduceMod, Nat.reduceDiv, Nat.reducePow, UInt8.reduceToNat, Int.reduceEq, Int.reduceLT, Int.reduceLE, ↓reduceIte, Nat.reduceAdd, Int.reduceToNat, reduceCtorEq, Nat.reduceLeDiff, ↓Am]
   have hany : ¬ ids.any p = true := by
    rw [List.any_eq_true]
    rintro ⟨y, hy, h⟩
    rw [hno y hy] at h; cases h
   rw [if_neg hany] at hK
   exact hK _
theorem AaX {ids : List (List UInt8)} (hlen : ids.length ≤ 100000) {p : List UInt8 → Bool} {H : List Ob} {g : FuncId} {a caps : List TV} (hnt : Oh (a ++ caps)) (hgo : Ue Tryd.prog g = true) (hp : ∀ x ∈ ids, ∀ T K, (∀ T', K (tb (p x)) (H ++ T ++ T')) → Aq Tryd.prog g (a ++ [idT x] ++ caps) (H ++ T) K) {K : TV → List Ob → Prop}
  (hK : ∀ T, K (tb (ids.any p)) (H ++ T)) : Aq Tryd.prog 50 [.sl 20 (ids.map idT), .fn (.func g) a caps] H K := by
 refine FQ (by simp) ?_
 simp -dsimp (disch := first | assumption | omega | (simp only [Ad]; done) | (simp only [Ad]; omega)) only [↓Ah, Ae, Ag, Ai, eq_self, forall_const, Nat.reduceLT, Nat.reduceEqDiff, Nat.reduceSub, Nat.reduceMul, Nat.reduceMod, Nat.reduceDiv, Nat.reducePow, UInt8.reduceToNat, Int.reduceEq, Int.reduceLT, Int.reduceLE, ↓reduceIte, Nat.reduceAdd, Int.reduceToNat, reduceCtorEq, Nat.reduceLeDiff, ↓Bz]
 refine BQ (AeF hlen hgo hp fun T => ?_)
 by_cases h : ids.any p = true
 ·rw [if_pos h]
  rw [h] at hK
  simp -dsimp (disch := first | assumption | omega | (simp only [Ad]; done) | (simp only [Ad]; omega)) only [↓Ah, Ae, Ag, Ai, eq_self, forall_const, Nat.reduceLT, Nat.reduceEqDiff, Nat.reduceSub, Nat.reduceMul, Nat.reduceMod, Nat.reduceDiv, Nat.reducePow, UInt8.reduceToNat, Int.reduceEq, Int.reduceLT, Int.reduceLE, ↓reduceIte, Nat.reduceAdd, Int.reduceToNat, reduceCtorEq, Nat.reduceLeDiff, ↓Bz]
  exact hK _
 ·rw [if_neg h]
  have h' : ids.any p = false := by simpa using h
  rw [h'] at hK
  simp -dsimp (disch := first | assumption | omega | (simp only [Ad]; done) | (simp only [Ad]; omega)) only [↓Ah, Ae, Ag, Ai, eq_self, forall_const, Nat.reduceLT, Nat.reduceEqDiff, Nat.reduceSub, Nat.reduceMul, Nat.reduceMod, Nat.reduceDiv, Nat.reducePow, UInt8.reduceToNat, Int.reduceEq, Int.reduceLT, Int.reduceLE, ↓reduceIte, Nat.reduceAdd, Int.reduceToNat, reduceCtorEq, Nat.reduceLeDiff, ↓Bz]
  exact hK _
theorem Apo {l : List Nd} (hn : (AL l).Nodup) {ids : List (List UInt8)} (hlen : ids.length ≤ 100000) {H : List Ob} {gi mi : Nat} (hg : H[gi]? = some (.obj 0 (.agg [.mp mi 0, .val (.map none)]))) (hm : H[mi]? = some (.mpo (.arr 20) (AZ l))) {K : TV → List Ob → Prop}
  (hK : ∀ T, K (tb (ids.all (AfJ l))) (H ++ T)) : Aq Tryd.prog 36 [.op gi 0 [], .sl 20 (ids.map idT)] H K := by
 have h2 := Ap hg
 have h3 := Ap hm
 refine Um (by simp) ?_
 simp -dsimp (disch := first | assumption | omega | (simp only [Ad]; done) | (simp only [Ad]; omega)) only [↓Ah, Ae, Ag, Ai, eq_self, forall_const, Nat.reduceLT, Nat.reduceEqDiff, Nat.reduceSub, Nat.reduceMul, Nat.reduceMod, Nat.reduceDiv, Nat.reducePow, UInt8.reduceToNat, Int.reduceEq, Int.reduceLT, Int.reduceLE, ↓reduceIte, Nat.reduceAdd, Int.reduceToNat, reduceCtorEq, Nat.reduceLeDiff, ↓Ld]
 refine BQ (AaX (p := fun x => !AfJ l x) hlen (by simp [Oh, BP]) (by kernel_rfl) (fun x hx T K hK => ?_) fun T => ?_)
 ·refine Anh (l := l) (gi := gi) (mi := mi) hn ?_ ?_ ?_ x fun T' => hK T'
  ·rw [A7 (by simp)]; exact Ro rfl
  ·rw [List.append_assoc, A7 h2]; exact hg
  ·rw [List.append_assoc, A7 h3]; exact hm
 ·simp -dsimp (disch := first | assumption | omega | (simp only [Ad]; done) | (simp only [Ad]; omega)) only [↓Ah, Ae, Ag, Ai, eq_self, forall_const, Nat.reduceLT, Nat.reduceEqDiff, Nat.reduceSub, Nat.reduceMul, Nat.reduceMod, Nat.reduceDiv, Nat.reducePow, UInt8.reduceToNat, Int.reduceEq, Int.reduceLT, Int.reduceLE, ↓reduceIte, Nat.reduceAdd, Int.reduceToNat, reduceCtorEq, Nat.reduceLeDiff, ↓Ld]
  have e : (!ids.any fun x => !AfJ l x) = ids.all (AfJ l) := by rw [List.not_any_eq_all_not]; simp
  rw [e]
  simp only [List.append_assoc]
  exact hK _
/-- A graph in which ids are known. -/
def Abd (l : List Nd) (ids : List (List UInt8)) : Prop := GOk l ∧ ids.all (AfJ l) = true
theorem ofV (l : List Nd) (hl : l.length ≤ 1000) (hp : ∀ n ∈ l, n.ps.length ≤ 1000) (ids : List (List UInt8)) (hlen : ids.length ≤ 100000) : Aq Tryd.prog 19 [.sl 22 (l.map ndT), .sl 20 (ids.map idT)] [] (fun x H' =>
  (Abd l ids → x = .tup [.op 1 0 [], .val .nilIface] ∧ ∃ T, H' = [.mpo (.arr 20) (AZ l), V9] ++ T) ∧ (¬ Abd l ids → ∃ g, x = .tup [g, .ifc 36 (i64 ((80 : Nat) : Int))])) := by
 refine AdJ (by simp) ?_
 simp -dsimp (disch := first | assumption | omega | (simp only [Ad]; done) | (simp only [Ad]; omega)) only [↓Ah, Ae, Ag, Ai, eq_self, forall_const, Nat.reduceLT, Nat.reduceEqDiff, Nat.reduceSub, Nat.reduceMul, Nat.reduceMod, Nat.reduceDiv, Nat.reducePow, UInt8.reduceToNat, Int.reduceEq, Int.reduceLT, Int.reduceLE, ↓reduceIte, Nat.reduceAdd, Int.reduceToNat, reduceCtorEq, Nat.reduceLeDiff, ↓Oo]
 refine BQ ((A2b l hl hp).mono ?_)
 rintro x H' ⟨h1, h2⟩
 by_cases hok : GOk l
 ·obtain ⟨rfl, es, o, rfl⟩ := h1 hok
  simp -dsimp (disch := first | assumption | omega | (simp only [Ad]; done) | (simp only [Ad]; omega)) only [↓Ah, Ae, Ag, Ai, eq_self, forall_const, Nat.reduceLT, Nat.reduceEqDiff, Nat.reduceSub, Nat.reduceMul, Nat.reduceMod, Nat.reduceDiv, Nat.reducePow, UInt8.reduceToNat, Int.reduceEq, Int.reduceLT, Int.reduceLE, ↓reduceIte, Nat.reduceAdd, Int.reduceToNat, reduceCtorEq, Nat.reduceLeDiff, ↓Oo]
  refine BQ (Apo hok.1.nodup hlen (H := [.mpo (.arr 20) (AZ l), V9, .mpo (.arr 20) es, o]) (mi := 0) rfl rfl fun T => ?_)
  by_cases hk : ids.all (AfJ l) = true
  ·rw [hk]
   simp -dsimp (disch := first | assumption | omega | (simp only [Ad]; done) | (simp only [Ad]; omega)) only [↓Ah, Ae, Ag, Ai, eq_self, forall_const, Nat.reduceLT, Nat.reduceEqDiff, Nat.reduceSub, Nat.reduceMul, Nat.reduceMod, Nat.reduceDiv, Nat.reducePow, UInt8.reduceToNat, Int.reduceEq, Int.reduceLT, Int.reduceLE, ↓reduceIte, Nat.reduceAdd, Int.reduceToNat, reduceCtorEq, Nat.reduceLeDiff, ↓Oo]
   exact ⟨fun _ => ⟨_, rfl⟩, fun h => absurd ⟨hok, hk⟩ h⟩
  ·have hk' : ids.all (AfJ l) = false := by simpa using hk
   rw [hk']
   simp -dsimp (disch := first | assumption | omega | (simp only [Ad]; done) | (simp only [Ad]; omega)) only [↓Ah, Ae, Ag, Ai, eq_self, forall_const, Nat.reduceLT, Nat.reduceEqDiff, Nat.reduceSub, Nat.reduceMul, Nat.reduceMod, Nat.reduceDiv, Nat.reducePow, UInt8.reduceToNat, Int.reduceEq, Int.reduceLT, Int.reduceLE, ↓reduceIte, Nat.reduceAdd, Int.reduceToNat, reduceCtorEq, Nat.reduceLeDiff, ↓Oo]
   exact ⟨fun h => absurd h.2 hk, fun _ => ⟨_, rfl⟩⟩
 ·obtain rfl := h2 hok
  simp -dsimp (disch := first | assumption | omega | (simp only [Ad]; done) | (simp only [Ad]; omega)) only [↓Ah, Ae, Ag, Ai, eq_self, forall_const, Nat.reduceLT, Nat.reduceEqDiff, Nat.reduceSub, Nat.reduceMul, Nat.reduceMod, Nat.reduceDiv, Nat.reducePow, UInt8.reduceToNat, Int.reduceEq, Int.reduceLT, Int.reduceLE, ↓reduceIte, Nat.reduceAdd, Int.reduceToNat, reduceCtorEq, Nat.reduceLeDiff, ↓Oo]
  exact ⟨fun h => absurd h.1 hok, fun _ => ⟨_, rfl⟩⟩
end Go.Proofs.YtingoaihnlhiaaaDoor


namespace Go.Proofs
open Go.Shelf
def Tryd.sortL_ren : Go.Shelf.Ren := ⟨fun | 6 => 45 | 15 => 56 | 14 => 55 | 28 => 67 | 29 => 68 | 20 => 59 | 21 => 60 | 22 => 61 | 23 => 62 | 24 => 63 | 25 => 64 | 26 => 65 | 27 => 66 | 46 => 69 | 47 => 70 | 48 => 71 | 49 => 72 | 50 => 73 | 57 => 74 | n => n, fun | 22 => 23 | 24 => 40 | 25 => 112 | 3 => 3 | 39 => 133 | 0 => 0 | 53 => 144 | 55 => 146 | 4 => 4 | 46 => 137 | 45 => 136 | 50 => 141 | 5 => 5 | 9 => 9 | 66 => 147 | 70 => 151 | 76 => 153 | 77 => 154 | n => n, fun | n => n⟩
theorem Tryd.sortL : Go.Proofs.SlLaysF0.n6 Tryd.prog Tryd.sortL_ren := {
 mixed := by kernel_rfl
 f6 := ⟨Tryd.f45.name, by decide, Tryd.func45.trans (congrArg some (by kernel_rfl))⟩
 f14 := ⟨Tryd.f55.name, by decide, Tryd.func55.trans (congrArg some (by kernel_rfl))⟩
 f15 := Tryd.func56.trans (congrArg some (by kernel_rfl))
 f20 := ⟨Tryd.f59.name, by decide, Tryd.func59.trans (congrArg some (by kernel_rfl))⟩
 f21 := ⟨Tryd.f60.name, by decide, Tryd.func60.trans (congrArg some (by kernel_rfl))⟩
 f22 := ⟨Tryd.f61.name, by decide, Tryd.func61.trans (congrArg some (by kernel_rfl))⟩
 f23 := ⟨Tryd.f62.name, by decide, Tryd.func62.trans (congrArg some (by kernel_rfl))⟩
 f24 := ⟨Tryd.f63.name, by decide, Tryd.func63.trans (congrArg some (by kernel_rfl))⟩
 f25 := ⟨Tryd.f64.name, by decide, Tryd.func64.trans (congrArg some (by kernel_rfl))⟩
 f26 := ⟨Tryd.f65.name, by decide, Tryd.func65.trans (congrArg some (by kernel_rfl))⟩
 f27 := ⟨Tryd.f66.name, by decide, Tryd.func66.trans (congrArg some (by kernel_rfl))⟩
 f28 := Tryd.func67.trans (congrArg some (by kernel_rfl))
 f29 := Tryd.func68.trans (congrArg some (by kernel_rfl))
 f46 := ⟨Tryd.f69.name, by decide, Tryd.func69.trans (congrArg some (by kernel_rfl))⟩
 f47 := Tryd.func70.trans (congrArg some (by kernel_rfl))
 f48 := Tryd.func71.trans (congrArg some (by kernel_rfl))
 f49 := ⟨Tryd.f72.name, by decide, Tryd.func72.trans (congrArg some (by kernel_rfl))⟩
 f50 := ⟨Tryd.f73.name, by decide, Tryd.func73.trans (congrArg some (by kernel_rfl))⟩
 f57 := ⟨Tryd.f74.name, by decide, Tryd.func74.trans (congrArg some (by kernel_rfl))⟩
 t0 := Tryd.underlying0
 a0 := Tryd.isAgg0
 z0 := Tryd.sizeOf0
 v0 := Tryd.zeroValue0
 t3 := Tryd.underlying3
 a3 := Tryd.isAgg3
 z3 := Tryd.sizeOf3
 v3 := Tryd.zeroValue3
 t4 := Tryd.underlying4
 a4 := Tryd.isAgg4
 z4 := Tryd.sizeOf4
 v4 := Tryd.zeroValue4
 t5 := Tryd.underlying5
 a5 := Tryd.isAgg5
 z5 := Tryd.sizeOf5
 v5 := Tryd.zeroValue5
 t9 := Tryd.underlying9
 a9 := Tryd.isAgg9
 z9 := Tryd.sizeOf9
 v9 := Tryd.zeroValue9
 t22 := Tryd.underlying23
 a22 := Tryd.isAgg23
 z22 := Tryd.sizeOf23
 v22 := Tryd.zeroValue23
 t25 := Tryd.underlying112
 a25 := Tryd.isAgg112
 z25 := Tryd.sizeOf112
 v25 := Tryd.zeroValue112
 t39 := Tryd.underlying133
 a39 := Tryd.isAgg133
 z39 := Tryd.sizeOf133
 v39 := Tryd.zeroValue133
 t45 := Tryd.underlying136
 a45 := Tryd.isAgg136
 z45 := Tryd.sizeOf136
 v45 := Tryd.zeroValue136
 t46 := Tryd.underlying137
 a46 := Tryd.isAgg137
 z46 := Tryd.sizeOf137
 v46 := Tryd.zeroValue137
 t50 := Tryd.underlying141
 a50 := Tryd.isAgg141
 z50 := Tryd.sizeOf141
 v50 := Tryd.zeroValue141
 t53 := Tryd.underlying144
 a53 := Tryd.isAgg144
 z53 := Tryd.sizeOf144
 v53 := Tryd.zeroValue144
 t55 := Tryd.underlying146
 a55 := Tryd.isAgg146
 z55 := Tryd.sizeOf146
 v55 := Tryd.zeroValue146
 t66 := Tryd.underlying147
 a66 := Tryd.isAgg147
 z66 := Tryd.sizeOf147
 v66 := Tryd.zeroValue147
 t70 := Tryd.underlying151
 a70 := Tryd.isAgg151
 z70 := Tryd.sizeOf151
 v70 := Tryd.zeroValue151
 t76 := Tryd.underlying153
 a76 := Tryd.isAgg153
 z76 := Tryd.sizeOf153
 v76 := Tryd.zeroValue153
 t77 := Tryd.underlying154
 a77 := Tryd.isAgg154
 z77 := Tryd.sizeOf154
 v77 := Tryd.zeroValue154 }
end Go.Proofs


namespace Go.Proofs.YtingoaihnlhiaaaDoor
open Go.RowKit
variable [Bc]
set_option linter.unusedSectionVars false
set_option linter.unusedVariables false

theorem Aap {P : Program} {c : Ctx} {w : World} {l : List UInt8} {v : Value} (h : Rep c w (slB l) v) : (Extern.Bytes.bytesOf v).run P w = .ok ⟨l.toArray⟩ w := by
 obtain ⟨hw, hr⟩ := h.sl
 rcases hr with ⟨he, ad, cap, rfl, _⟩ | ⟨b, off, cap, us, rfl, h3, h4, h5, h6, h7⟩
 ·have hl : l = [] := by simpa using he
  subst hl
  cases ad with
  | none => rfl
  | some a => rfl
 ·have hb := KR (fun y hy => by obtain ⟨b, _, rfl⟩ := List.mem_map.1 hy; exact Abb b) h6
  rw [TY] at hb
  have hl := Lib.run_loadBytesX (P := P) w (l.map fun b : UInt8 => (b.toNat : Int)) ⟨b, off, none⟩ .empty (fun j x hj => by
   rw [Dk]
   refine h7 j _ ?_
   rw [hb, List.getElem?_map]
   rw [List.getElem?_map] at hj
   cases hg : l[j]? with
   | none => rw [hg] at hj; cases hj
   | some y => rw [hg] at hj; cases hj; rfl)
  have e2 : Lib.bytesOf (l.map fun b : UInt8 => (b.toNat : Int)) = l := by simp [Lib.bytesOf, List.map_map, Function.comp_def]
  rw [e2] at hl
  simp only [List.length_map] at hl ⊢
  simp only [Extern.Bytes.bytesOf]
  rw [hl]
  congr 1
  apply ByteArray.ext
  show (#[] : Array UInt8) ++ l.toArray = l.toArray
  simp
theorem YB {P : Program} {w : World} {u v : Value} {a b : List UInt8} (h1 : (Extern.Bytes.bytesOf u).run P w = .ok ⟨a.toArray⟩ w) (h2 : (Extern.Bytes.bytesOf v).run P w = .ok ⟨b.toArray⟩ w) : (Extern.BytealgCompare.compare #[u, v]).run P w = .ok (.int .i64 (Lib.compareBytes a b)) w := by
 change Sem.run P (do pure (goInt (Extern.BytealgCompare.cmp (← Extern.Bytes.bytesOf u) (← Extern.Bytes.bytesOf v)))) w = _
 simp only [Sem.run_bind, Sem.run_pure, h1, h2, Result.andThen]
 rw [Lib.cmp_eq]
 rfl
set_option maxHeartbeats 2000000 in
set_option maxRecDepth 100000 in
theorem AaD (u v : Value) (z : Int) (w : World) (h : (Extern.BytealgCompare.compare #[u, v]).run Tryd.prog w = .ok (.int .i64 z) w) :
  Calls Tryd.prog 47 #[u, v] w fun e w' => e = .returned (.int .i64 z) ∧ w' = w := by
 go_enter Tryd.func47, Tryd.ntmps47
 go_wp2
 rw [run_callFunc_extern Tryd.func57 (by kernel_rfl) (by kernel_rfl) (by kernel_rfl) (e := Extern.BytealgCompare.compare) (by kernel_rfl), h]
 simp only [Result.andThen]
 rw [Oper.upon_value]
 go_wp2
 go_ret
 exact ⟨rfl, rfl⟩
theorem AjU (a b : List UInt8) : Gh Tryd.prog 47 [slB a, slB b] (fun x => x = .val (.int .i64 (Lib.compareBytes a b))) := by
 intro β F w vs hF hv
 obtain ⟨v, us, rfl, h1, hv⟩ := Bd.cons.1 hv
 obtain ⟨v2, us, rfl, h2, hv⟩ := Bd.cons.1 hv
 rw [Bd.nil] at hv; subst hv
 refine (AaD v v2 _ w (YB (Aap (Or.inl h1)) (Aap (Or.inl h2)))).mono ?_
 rintro e w' ⟨rfl, rfl⟩
 exact ⟨_, _, F, rfl, rfl, Rep.of_val, ⟨rfl, rfl, rfl, Nat.le_refl _, fun _ _ => rfl, fun _ h => h, fun _ _ h => h, hF.1⟩⟩
theorem ZQ {P : Program} {W : World} {b n c : Nat} {t : TypeId} {fr : Nat × Nat} {l : List UInt8} (h : W.heap[b]? = some (.cells (l.map fun b => Value.int .u8 b.toNat).toArray t fr)) (hn : n = l.length) : (Extern.Bytes.bytesOf (.slice (some ⟨b, 0, none⟩) n c)).run P W = .ok ⟨l.toArray⟩ W := by
 subst hn
 have hc : Cj W b 0 (l.map fun b => Value.int .u8 b.toNat) := by
  have := Ij (w := W) (b := b) (pre := []) (a := []) (m := l.map fun b => Value.int .u8 b.toNat) (q := []) (post := []) (t := t) (fr := fr) (by simpa using h)
  simpa using this
 have hl := Lib.run_loadBytesX (P := P) W (l.map fun b : UInt8 => (b.toNat : Int)) ⟨b, 0, none⟩ .empty (fun j x hj => by
  rw [Dk]
  refine hc j _ ?_
  rw [List.getElem?_map] at hj ⊢
  cases hg : l[j]? with
  | none => rw [hg] at hj; cases hj
  | some y => rw [hg] at hj; cases hj; rfl)
 have e2 : Lib.bytesOf (l.map fun b : UInt8 => (b.toNat : Int)) = l := by simp [Lib.bytesOf, List.map_map, Function.comp_def]
 rw [e2] at hl
 simp only [List.length_map] at hl ⊢
 simp only [Extern.Bytes.bytesOf]
 rw [hl]
 congr 1
 apply ByteArray.ext
 show (#[] : Array UInt8) ++ l.toArray = l.toArray
 simp
theorem Aie {w : World} {o1 o2 : Obj} : ((w.alloc o1).alloc o2).heap[w.heap.size]? = some o1 ∧ ((w.alloc o1).alloc o2).heap[w.heap.size + 1]? = some o2 := by
 constructor
 ·show ((w.heap.push o1).push o2)[w.heap.size]? = some o1
  rw [Array.getElem?_push, if_neg (by simp), Array.getElem?_push, if_pos rfl]
 ·show ((w.heap.push o1).push o2)[w.heap.size + 1]? = some o2
  rw [Array.getElem?_push, if_pos (by simp)]
theorem Ale {w : World} {o1 o2 : Obj} : ((w.alloc o1).alloc o2).drew = Sort.grow (w.drewN 1) #[o1, o2] := by
 have e : w.heap ++ #[o1, o2] = (w.heap.push o1).push o2 := by apply Array.ext'; simp
 show _ = { w.drewN 1 with heap := w.heap ++ #[o1, o2] }
 rw [e]; rfl
set_option maxHeartbeats 2000000 in
set_option maxRecDepth 100000 in
theorem AkA (x y : AfF) (w : World) : Calls Tryd.prog 46 #[.agg (Yl x).toArray, .agg (Yl y).toArray] w fun e w' => e = .returned (.int .i64 (AfG x y)) ∧ ∃ q os', w' = Sort.grow (w.drewN q) os' := by
 have hcon : ∀ (t1 t2 : TypeId) (W : World), W.heap = ((w.alloc (.cells (Yl x).toArray t1)).alloc (.cells (Yl y).toArray t2)).heap → Calls Tryd.prog 47 #[.slice (some ⟨w.heap.size, 0, none⟩) 20 20, .slice (some ⟨w.heap.size + 1, 0, none⟩) 20 20] W fun e w' => e = .returned (.int .i64 (AfG x y)) ∧ w' = W :=
  fun t1 t2 W hW => AaD _ _ _ W (YB (ZQ (by rw [hW]; exact Aie.1) x.2.symm) (ZQ (by rw [hW]; exact Aie.2) y.2.symm))
 generalize AfG x y = z at *
 generalize (Yl x).toArray = xs at *
 generalize (Yl y).toArray = ys at *
 go_enter Tryd.func46, Tryd.ntmps46
 go_wp2
 go_region_with (go_at_call 47; refine Calls.mono (hcon 40 40 _ (by rfl)) ?_; rintro e w' ⟨rfl, rfl⟩)
 go_wp2
 go_ret
 exact ⟨rfl, 1, #[.cells xs 40, .cells ys 40], Ale⟩
/-- slices.SortFunc, at the ids of a row of one's own. -/
theorem ArY {id ver N cp : Nat} {d : List (List UInt8)} {H : List Ob} {K : TV → List Ob → Prop} (hid : H[id]? = some (.obj ver (.arr N 20 (d.map idT)))) (hb : d.length ≤ 100000)
  (hK : K (.tup []) (H.set id (.obj ver (.arr N 20 ((IJ d).map idT))))) : Aq Tryd.prog 45 [.os 20 id ver [] 0 d.length cp, .val (.func (.func 46) #[] #[])] H K := by
 have e : (fun l : List UInt8 => TV.arr 20 1 (l.map by8)) = idT := by funext l; exact AP.symm
 refine Ai5 Tryd.sortL (fun w => Tryd.isAgg40 w) (fun w => Tryd.sizeOf40 w) (g := 46) (cb := #[]) (rest := []) (d := d) (enters_of Tryd.func46 (by kernel_rfl) rfl) (fun x y w => AkA x y w) (fun c w v h => ?_) (by rw [hid, e, List.append_nil]) rfl (by omega) (by rw [e, List.append_nil]; exact hK)
 exact Rep.val.1 (Or.inl h)
end Go.Proofs.YtingoaihnlhiaaaDoor


namespace Go.Proofs.YtingoaihnlhiaaaDoor
variable [Bc]
set_option linter.unusedSectionVars false
set_option linter.unusedVariables false
set_option linter.defProp false
set_option maxRecDepth 100000

def G5 : Af := .seq (.seq (.ops [mv_ 9 3,
  po_ 10 (.bin 3 .geq (.t 9) (ci_ 0))] [0, 2, 3, 10])
 (.cond (.t 10)
 (.skip)
 (.exit 0)))
 (.seq (.block 1 (.ops [mv_ 13 0,
  mv_ 14 3,
  mv_ 15 2,
  so_ 16 (.call 39 [.t 13, .t 14, .t 15])] [0, 2, 3]))
 (.ops [mv_ 11 3,
  po_ 12 (.bin 3 .sub (.t 11) (ci_ 1)),
  mv_ 3 12] [0, 2, 3]))
def GI : Af := .seq (.ops [mv_ 6 2,
  po_ 7 (.bin 3 .quo (.t 6) (ci_ 2)),
  po_ 8 (.bin 3 .sub (.t 7) (ci_ 1)),
  mv_ 3 8] [0, 2, 3])
 (.block 0 (.loop [0, 2, 3] G5))
def JQ : Af := .seq (.ops [mv_ 4 0,
  so_ 5 (.inv (.t 4) "Len" []),
  mv_ 2 5] [0, 2])
 GI
def J5 : List VR := []
theorem SB : Tryd.f22.body.bind (trC Tryd.prog Tryd.f22.ntmps) = some (er JQ) := by kernel_rfl
theorem SK : trR Tryd.prog Tryd.f22.results.toList = some J5 := by kernel_rfl
def MI := Ac G5.eq_1
def MC := Ac GI.eq_1
def PX := Ac JQ.eq_1
theorem Px {K : TV → Prop} {e : Env} {H : List Ob} : res J5 e H K = res [] e H K := Aa rfl
def BU := (And.intro (And.intro @MI @MC) (And.intro @PX @Px))
def Rx := ET 17 Tryd.func22 SB SK rfl

def Hf : Af := .seq (.seq (.ops [mv_ 23 8,
  po_ 24 (.bin 3 .add (.t 23) (ci_ 1)),
  mv_ 10 24] [0, 1, 2, 7, 8, 9, 10])
 (.seq (.ops [mv_ 25 10,
  mv_ 26 2,
  po_ 27 (.bin 3 .lss (.t 25) (.t 26)),
  mv_ 28 27,
  ⟨some 29, .p (.mov (.t 0)), some ⟨28, true⟩⟩,
  ⟨some 30, .p (.mov (.t 10)), some ⟨28, true⟩⟩,
  ⟨some 31, .p (.mov (.t 8)), some ⟨28, true⟩⟩,
  ⟨some 32, .s (.inv (.t 29) "Less" [.t 30, .t 31]), some ⟨28, true⟩⟩,
  po_ 33 (.pick (.t 28) (.t 32) (.c (.bool false)))] [0, 1, 2, 7, 9, 10, 33])
 (.cond (.t 33)
 (.ops [mv_ 34 10,
   mv_ 9 34] [0, 1, 2, 7, 9])
 (.skip))))
 (.seq (.seq (.ops [mv_ 35 0,
  mv_ 36 9,
  mv_ 37 7,
  so_ 38 (.inv (.t 35) "Less" [.t 36, .t 37]),
  po_ 39 (.un .not (.t 38))] [0, 1, 2, 7, 9, 39])
 (.cond (.t 39)
 (.exit 0)
 (.skip)))
 (.seq (.ops [mv_ 40 0,
  mv_ 41 7,
  mv_ 42 9,
  so_ 43 (.inv (.t 40) "Swap" [.t 41, .t 42])] [0, 1, 2, 9])
 (.ops [mv_ 44 9,
  mv_ 7 44] [0, 1, 2, 7])))
def GX : Af := .seq (.ops [mv_ 22 8,
  mv_ 9 22] [0, 1, 2, 7, 8, 9])
 Hf
def G9 : Af := .seq (.seq (.ops [mv_ 15 8,
  mv_ 16 2,
  po_ 17 (.bin 3 .geq (.t 15) (.t 16)),
  mv_ 18 17,
  ⟨some 19, .p (.mov (.t 8)), some ⟨18, false⟩⟩,
  ⟨some 20, .p (.bin 3 .lss (.t 19) (ci_ 0)), some ⟨18, false⟩⟩,
  po_ 21 (.pick (.t 18) (.c (.bool true)) (.t 20))] [0, 1, 2, 7, 8, 21])
 (.cond (.t 21)
 (.exit 0)
 (.skip)))
 GX
def GK : Af := .block 1 (.seq (.ops [mv_ 12 7,
  po_ 13 (.bin 3 .mul (ci_ 2) (.t 12)),
  po_ 14 (.bin 3 .add (.t 13) (ci_ 1)),
  mv_ 8 14] [0, 1, 2, 7, 8])
 G9)
def G8 : Af := .seq (.ops [mv_ 45 7,
  mv_ 46 1,
  po_ 47 (.bin 3 .gtr (.t 45) (.t 46)),
  mv_ 6 47] [6])
 (.ret)
def G7 : Af := .seq (.block 0 (.loop [0, 1, 2, 7] GK))
 G8
def GN : Af := .seq (.ops [mv_ 11 1,
  mv_ 7 11] [0, 1, 2, 7])
 G7
def Jt : Af := .seq (.ops [po_ 6 (.mov (.c (.bool false)))] [0, 1, 2])
 GN
def JX : List VR := [.tmp 6]
theorem SY : Tryd.f39.body.bind (trC Tryd.prog Tryd.f39.ntmps) = some (er Jt) := by kernel_rfl
theorem Su : trR Tryd.prog Tryd.f39.results.toList = some JX := by kernel_rfl
def MJ := Ac Hf.eq_1
def Md := Ac GX.eq_1
def MB := Ac G9.eq_1
def MF := Ac GK.eq_1
def MH := Ac G8.eq_1
def Me := Ac G7.eq_1
def ML := Ac GN.eq_1
def PL := Ac Jt.eq_1
theorem PG {K : TV → Prop} {e : Env} {H : List Ob} : res JX e H K = res [.tmp 6] e H K := Aa rfl
def Au := (And.intro (And.intro (And.intro (And.intro @MJ @Md) (And.intro @MB @MF)) (And.intro (And.intro @MH @Me) (And.intro @ML @PL))) @PG)
def Rq := ET 48 Tryd.func39 SY Su rfl

def IR : Af := .seq (.seq (.ops [mv_ 8 4,
  mv_ 9 1,
  po_ 10 (.bin 3 .eql (.t 8) (.t 9)),
  mv_ 11 10,
  ⟨some 12, .p (.mov (.t 0)), some ⟨11, false⟩⟩,
  ⟨some 13, .p (.mov (.t 1)), some ⟨11, false⟩⟩,
  ⟨some 14, .p (.mov (.t 4)), some ⟨11, false⟩⟩,
  ⟨some 15, .s (.inv (.t 12) "Less" [.t 13, .t 14]), some ⟨11, false⟩⟩,
  ⟨some 16, .p (.un .not (.t 15)), some ⟨11, false⟩⟩,
  po_ 17 (.pick (.t 11) (.c (.bool true)) (.t 16))] [0, 1, 4, 17])
 (.cond (.t 17)
 (.exit 0)
 (.skip)))
 (.seq (.ops [mv_ 18 0,
  mv_ 19 4,
  mv_ 20 1,
  so_ 21 (.inv (.t 18) "Swap" [.t 19, .t 20])] [0, 4])
 (.ops [mv_ 22 4,
  mv_ 1 22] [0, 1]))
def IL : Af := .block 1 (.seq (.ops [mv_ 5 1,
  po_ 6 (.bin 3 .sub (.t 5) (ci_ 1)),
  po_ 7 (.bin 3 .quo (.t 6) (ci_ 2)),
  mv_ 4 7] [0, 1, 4])
 IR)
def Lh : Af := .block 0 (.loop [0, 1] IL)
def L8 : List VR := []
theorem Vs : Tryd.f40.body.bind (trC Tryd.prog Tryd.f40.ntmps) = some (er Lh) := by kernel_rfl
theorem Vm : trR Tryd.prog Tryd.f40.results.toList = some L8 := by kernel_rfl
def Pm := Ac IR.eq_1
def Og := Ac IL.eq_1
def TF := Ac Lh.eq_1
theorem Sz {K : TV → Prop} {e : Env} {H : List Ob} : res L8 e H K = res [] e H K := Aa rfl
def BM := (And.intro (And.intro @Pm @Og) (And.intro @TF @Sz))
def Uk := ET 23 Tryd.func40 Vs Vm rfl

def Iy : Af := .seq (.ops [mv_ 4 0,
  so_ 5 (.inv (.t 4) "Len" []),
  po_ 6 (.bin 3 .sub (.t 5) (ci_ 1)),
  mv_ 3 6] [0, 3])
 (.seq (.ops [mv_ 7 0,
  mv_ 8 3,
  so_ 9 (.inv (.t 7) "Swap" [.c (.int .i64 ((0 : Nat) : Int)), .t 8])] [0, 3])
 (.seq (.ops [mv_ 10 0,
  mv_ 11 3,
  so_ 12 (.call 39 [.t 10, .c (.int .i64 ((0 : Nat) : Int)), .t 11])] [0])
 (.seq (.ops [mv_ 13 0,
  so_ 14 (.inv (.t 13) "Pop" []),
  mv_ 2 14] [2])
 (.ret))))
def Kz : Af := .seq (.ops [po_ 2 (.mov (.c .nilIface))] [0])
 Iy
def KL : List VR := [.tmp 2]
theorem UD : Tryd.f24.body.bind (trC Tryd.prog Tryd.f24.ntmps) = some (er Kz) := by kernel_rfl
theorem Ux : trR Tryd.prog Tryd.f24.results.toList = some KL := by kernel_rfl
def NH := Ac Iy.eq_1
def RQ := Ac Kz.eq_1
theorem RS {K : TV → Prop} {e : Env} {H : List Ob} : res KL e H K = res [.tmp 2] e H K := Aa rfl
def Ce := (And.intro (And.intro @NH @RQ) @RS)
def SC := ET 15 Tryd.func24 UD Ux rfl

def Jz : Af := .seq (.ops [mv_ 4 0,
  mv_ 5 1,
  so_ 6 (.inv (.t 4) "Push" [.t 5])] [0])
 (.ops [mv_ 7 0,
  mv_ 8 0,
  so_ 9 (.inv (.t 8) "Len" []),
  po_ 10 (.bin 3 .sub (.t 9) (ci_ 1)),
  so_ 11 (.call 40 [.t 7, .t 10])] [])
def Ju : List VR := []
theorem Sm : Tryd.f26.body.bind (trC Tryd.prog Tryd.f26.ntmps) = some (er Jz) := by kernel_rfl
theorem TL : trR Tryd.prog Tryd.f26.results.toList = some Ju := by kernel_rfl
def PR := Ac Jz.eq_1
theorem Qc {K : TV → Prop} {e : Env} {H : List Ob} : res Ju e H K = res [] e H K := Aa rfl
def D7 := (And.intro @PR @Qc)
def RD := ET 12 Tryd.func26 Sm TL rfl

def Ph : Af := .seq (.ops [po_ 2 (.mov (ci_ 0))] [0])
 (.seq (.ops [mv_ 3 0,
  po_ 4 (.lenV (.t 3)),
  mv_ 2 4] [2])
 (.ret))
def OL : List VR := [.tmp 2]
theorem Yq : Tryd.f23.body.bind (trC Tryd.prog Tryd.f23.ntmps) = some (er Ph) := by kernel_rfl
theorem X3 : trR Tryd.prog Tryd.f23.results.toList = some OL := by kernel_rfl
def Vq := Ac Ph.eq_1
theorem Vo {K : TV → Prop} {e : Env} {H : List Ob} : res OL e H K = res [.tmp 2] e H K := Aa rfl
def XZ := (And.intro @Vq @Vo)
def Wl := ET 5 Tryd.func23 Yq X3 rfl

def JY : Af := .seq (.draw 21 [mv_ 7 0,
  mv_ 8 2,
  po_ 9 (.idxA 22 (.t 7) (.t 8)),
  po_ 10 (.fieldA 2 21 (.t 9)),
  po_ 11 (.load false 1 (.t 10)),
  mv_ 12 0,
  mv_ 13 1,
  po_ 14 (.idxA 22 (.t 12) (.t 13)),
  po_ 15 (.fieldA 2 21 (.t 14)),
  po_ 16 (.load false 1 (.t 15)),
  so_ 17 (.call 99 [.t 11, .t 16]),
  mv_ 18 0,
  mv_ 19 2,
  po_ 20 (.idxA 22 (.t 18) (.t 19)),
  po_ 21 (.fieldA 0 0 (.t 20)),
  po_ 22 (.slA 20 1 (.t 21) none none),
  mv_ 23 0,
  mv_ 24 1,
  po_ 25 (.idxA 22 (.t 23) (.t 24)),
  po_ 26 (.fieldA 0 0 (.t 25)),
  po_ 27 (.slA 20 1 (.t 26) none none),
  so_ 28 (.call 47 [.t 22, .t 27]),
  ⟨some 29, .s (.bslice 1 2 (.val (.int .i64 ((0 : Nat) : Int))) [⟨0, .t 17⟩, ⟨1, .t 28⟩]), none⟩,
  so_ 30 (.call 98 [.t 29]),
  po_ 31 (.bin 3 .lss (.t 30) (ci_ 0)),
  mv_ 6 31] [6])
 (.ret)
def MM : Af := .seq (.ops [po_ 6 (.mov (.c (.bool false)))] [0, 1, 2])
 JY
def Nh : List VR := [.tmp 6]
theorem V4 : Tryd.f94.body.bind (trC Tryd.prog Tryd.f94.ntmps) = some (er MM) := by kernel_rfl
theorem Xi : trR Tryd.prog Tryd.f94.results.toList = some Nh := by kernel_rfl
def PH := Ac JY.eq_1
def Uw := Ac MM.eq_1
theorem Uu {K : TV → Prop} {e : Env} {H : List Ob} : res Nh e H K = res [.tmp 6] e H K := Aa rfl
def ES := (And.intro (And.intro @PH @Uw) @Uu)
def U9 := ET 32 Tryd.func94 V4 Xi rfl

def Nk : Af := .draw 8 [mv_ 6 0,
  mv_ 7 1,
  mv_ 8 0,
  mv_ 9 2,
  mv_ 10 0,
  mv_ 11 2,
  po_ 12 (.idxA 22 (.t 10) (.t 11)),
  po_ 13 (.load true 22 (.t 12)),
  mv_ 14 0,
  mv_ 15 1,
  po_ 16 (.idxA 22 (.t 14) (.t 15)),
  po_ 17 (.load true 22 (.t 16)),
  po_ 18 (.idxA 22 (.t 6) (.t 7)),
  ⟨none, .s (.store 22 (.t 18) (.t 13)), none⟩,
  po_ 19 (.idxA 22 (.t 8) (.t 9)),
  ⟨none, .s (.store 22 (.t 19) (.t 17)), none⟩] []
def Nj : List VR := []
theorem WZ : Tryd.f97.body.bind (trC Tryd.prog Tryd.f97.ntmps) = some (er Nk) := by kernel_rfl
theorem Wi : trR Tryd.prog Tryd.f97.results.toList = some Nj := by kernel_rfl
def Ut := Ac Nk.eq_1
theorem Uo {K : TV → Prop} {e : Env} {H : List Ob} : res Nj e H K = res [] e H K := Aa rfl
def Xy := (And.intro @Ut @Uo)
def VK := ET 20 Tryd.func97 WZ Wi rfl

def MP : Af := .draw 4 [mv_ 4 0,
  mv_ 5 0,
  po_ 6 (.nilc (.t 5)),
  po_ 7 (.load false 1 (.t 6)),
  mv_ 8 1,
  po_ 9 (.gen (.tas 51) [.t 8]),
  ⟨some 10, .s (.bslice 22 1 (.agg [.arr 20 1 [.val (.int .u8 ((0 : Nat) : Int)), .val (.int .u8 ((0 : Nat) : Int)), .val (.int .u8 ((0 : Nat) : Int)), .val (.int .u8 ((0 : Nat) : Int)), .val (.int .u8 ((0 : Nat) : Int)), .val (.int .u8 ((0 : Nat) : Int)), .val (.int .u8 ((0 : Nat) : Int)), .val (.int .u8 ((0 : Nat) : Int)), .val (.int .u8 ((0 : Nat) : Int)), .val (.int .u8 ((0 : Nat) : Int)), .val (.int .u8 ((0 : Nat) : Int)), .val (.int .u8 ((0 : Nat) : Int)), .val (.int .u8 ((0 : Nat) : Int)), .val (.int .u8 ((0 : Nat) : Int)), .val (.int .u8 ((0 : Nat) : Int)), .val (.int .u8 ((0 : Nat) : Int)), .val (.int .u8 ((0 : Nat) : Int)), .val (.int .u8 ((0 : Nat) : Int)), .val (.int .u8 ((0 : Nat) : Int)), .val (.int .u8 ((0 : Nat) : Int))], .val (.slice none 0 0), .val (.int .i64 ((0 : Nat) : Int))]) [⟨0, .t 9⟩]), none⟩,
  so_ 11 (.app 22 56 51 (.t 7) (.t 10)),
  po_ 12 (.nilc (.t 4)),
  ⟨none, .s (.store 1 (.t 12) (.t 11)), none⟩] []
def MW : List VR := []
theorem Xc : Tryd.f96.body.bind (trC Tryd.prog Tryd.f96.ntmps) = some (er MP) := by kernel_rfl
theorem XC : trR Tryd.prog Tryd.f96.results.toList = some MW := by kernel_rfl
def Uz := Ac MP.eq_1
theorem UB {K : TV → Prop} {e : Env} {H : List Ob} : res MW e H K = res [] e H K := Aa rfl
def WW := (And.intro @Uz @UB)
def UV := ET 13 Tryd.func96 Xc XC rfl

def KD : Af := .seq (.ops [mv_ 8 3,
  mv_ 9 3,
  po_ 10 (.lenV (.t 9)),
  po_ 11 (.bin 3 .sub (.t 10) (ci_ 1)),
  po_ 12 (.idxA 22 (.t 8) (.t 11)),
  po_ 13 (.load true 22 (.t 12)),
  so_ 4 (.alloc (.agg [.arr 20 1 [.val (.int .u8 ((0 : Nat) : Int)), .val (.int .u8 ((0 : Nat) : Int)), .val (.int .u8 ((0 : Nat) : Int)), .val (.int .u8 ((0 : Nat) : Int)), .val (.int .u8 ((0 : Nat) : Int)), .val (.int .u8 ((0 : Nat) : Int)), .val (.int .u8 ((0 : Nat) : Int)), .val (.int .u8 ((0 : Nat) : Int)), .val (.int .u8 ((0 : Nat) : Int)), .val (.int .u8 ((0 : Nat) : Int)), .val (.int .u8 ((0 : Nat) : Int)), .val (.int .u8 ((0 : Nat) : Int)), .val (.int .u8 ((0 : Nat) : Int)), .val (.int .u8 ((0 : Nat) : Int)), .val (.int .u8 ((0 : Nat) : Int)), .val (.int .u8 ((0 : Nat) : Int)), .val (.int .u8 ((0 : Nat) : Int)), .val (.int .u8 ((0 : Nat) : Int)), .val (.int .u8 ((0 : Nat) : Int)), .val (.int .u8 ((0 : Nat) : Int))], .val (.slice none 0 0), .val (.int .i64 ((0 : Nat) : Int))])),
  ⟨none, .s (.store 22 (.t 4) (.t 13)), none⟩] [0, 3, 4])
 (.seq (.ops [mv_ 14 0,
  mv_ 15 3,
  mv_ 16 3,
  po_ 17 (.lenV (.t 16)),
  po_ 18 (.bin 3 .sub (.t 17) (ci_ 1)),
  po_ 19 (.slV 22 (.t 15) none (some (.t 18))),
  po_ 20 (.nilc (.t 14)),
  ⟨none, .s (.store 1 (.t 20) (.t 19)), none⟩] [4])
 (.seq (.ops [po_ 21 (.load true 22 (.t 4)),
  po_ 22 (.iface 51 (.t 21)),
  mv_ 2 22] [2])
 (.ret)))
def KF : Af := .seq (.ops [mv_ 5 0,
  po_ 6 (.nilc (.t 5)),
  po_ 7 (.load false 1 (.t 6)),
  mv_ 3 7] [0, 3])
 KD
def OC : Af := .seq (.ops [po_ 2 (.mov (.c .nilIface))] [0])
 KF
def Oy : List VR := [.tmp 2]
theorem Yn : Tryd.f95.body.bind (trC Tryd.prog Tryd.f95.ntmps) = some (er OC) := by kernel_rfl
theorem XO : trR Tryd.prog Tryd.f95.results.toList = some Oy := by kernel_rfl
def RG := Ac KD.eq_1
def Rz := Ac KF.eq_1
def VF := Ac OC.eq_1
theorem Vl {K : TV → Prop} {e : Env} {H : List Ob} : res Oy e H K = res [.tmp 2] e H K := Aa rfl
def XJ := (And.intro (And.intro @RG @Rz) (And.intro @VF @Vl))
def WJ := ET 23 Tryd.func95 Yn XO rfl

def TJ : Af := .seq (.ops [po_ 9 (.bin 3 .lss (.t 8) (.t 7))] [3, 6, 7, 8, 9])
 (.seq (.cond (.t 9)
 (.skip)
 (.exit 0))
 (.seq (.block 1 (.seq (.ops [po_ 10 (.idxA 1 (.t 6) (.t 8)),
  po_ 11 (.load false 1 (.t 10)),
  mv_ 5 11] [3, 5, 6, 7, 8])
 (.seq (.ops [mv_ 12 5,
  mv_ 13 3,
  po_ 14 (.bin 3 .neq (.t 12) (.t 13))] [3, 5, 6, 7, 8, 14])
 (.cond (.t 14)
 (.seq (.ops [mv_ 15 5,
   mv_ 2 15] [2])
  (.ret))
 (.skip)))))
 (.ops [po_ 16 (.bin 3 .add (.t 8) (ci_ 1)),
  mv_ 8 16] [3, 6, 7, 8])))
def TI : Af := .seq (.ops [mv_ 17 3,
  mv_ 2 17] [2])
 (.ret)
def Tq : Af := .seq (.seq (.ops [mv_ 6 0,
  po_ 7 (.lenV (.t 6)),
  po_ 8 (.mov (ci_ 0))] [3, 6, 7, 8])
 (.block 0 (.loop [3, 6, 7, 8] TJ)))
 TI
def TE : Af := .seq (.ops [po_ 3 (.mov (ci_ 0))] [0, 3])
 Tq
def YH : Af := .seq (.ops [po_ 2 (.mov (ci_ 0))] [0])
 TE
def YD : List VR := [.tmp 2]
theorem AbN : Tryd.f98.body.bind (trC Tryd.prog Tryd.f98.ntmps) = some (er YH) := by kernel_rfl
theorem Acp : trR Tryd.prog Tryd.f98.results.toList = some YD := by kernel_rfl
def X5 := Ac TJ.eq_1
def Ye := Ac TI.eq_1
def X8 := Ac Tq.eq_1
def XV := Ac TE.eq_1
def Aad := Ac YH.eq_1
theorem Z8 {K : TV → Prop} {e : Env} {H : List Ob} : res YD e H K = res [.tmp 2] e H K := Aa rfl
def GY := (And.intro (And.intro (And.intro @X5 @Ye) (And.intro @X8 @XV)) (And.intro @Aad @Z8))
def Aa0 := ET 18 Tryd.func98 AbN Acp rfl

def IQ : Af := .seq (.seq (.ops [mv_ 11 5] [0, 1, 6, 11])
 (.cond (.t 11)
 (.seq (.seq (.ops [mv_ 12 6] [12])
  (.cond (.t 12)
  (.seq (.ops [po_ 4 (.mov (ci_ 0))] [4])
   (.ret))
  (.skip)))
  (.seq (.ops [po_ 4 (.mov (.c (.int .i64 (-1))))] [4])
  (.ret)))
 (.skip)))
 (.seq (.seq (.ops [mv_ 13 6] [0, 1, 13])
 (.cond (.t 13)
 (.seq (.ops [po_ 4 (.mov (ci_ 1))] [4])
  (.ret))
 (.skip)))
 (.seq (.seq (.ops [mv_ 14 0,
  mv_ 15 1,
  po_ 16 (.bin 2 .lss (.t 14) (.t 15))] [0, 1, 16])
 (.cond (.t 16)
 (.seq (.ops [po_ 4 (.mov (.c (.int .i64 (-1))))] [4])
  (.ret))
 (.skip)))
 (.seq (.seq (.ops [mv_ 17 0,
  mv_ 18 1,
  po_ 19 (.bin 2 .gtr (.t 17) (.t 18))] [19])
 (.cond (.t 19)
 (.seq (.ops [po_ 4 (.mov (ci_ 1))] [4])
  (.ret))
 (.skip)))
 (.seq (.ops [po_ 4 (.mov (ci_ 0))] [4])
 (.ret)))))
def IW : Af := .seq (.ops [mv_ 9 1,
  so_ 10 (.call 100 [.t 9]),
  mv_ 6 10] [0, 1, 5, 6])
 IQ
def IY : Af := .seq (.ops [mv_ 7 0,
  so_ 8 (.call 100 [.t 7]),
  mv_ 5 8] [0, 1, 5])
 IW
def Lm : Af := .seq (.ops [po_ 4 (.mov (ci_ 0))] [0, 1])
 IY
def LQ : List VR := [.tmp 4]
theorem UX : Tryd.f99.body.bind (trC Tryd.prog Tryd.f99.ntmps) = some (er Lm) := by kernel_rfl
theorem U2 : trR Tryd.prog Tryd.f99.results.toList = some LQ := by kernel_rfl
def Pq := Ac IQ.eq_1
def Ox := Ac IW.eq_1
def OE := Ac IY.eq_1
def TS := Ac Lm.eq_1
theorem Sj {K : TV → Prop} {e : Env} {H : List Ob} : res LQ e H K = res [.tmp 4] e H K := Aa rfl
def Df := (And.intro (And.intro (And.intro @Pq @Ox) (And.intro @OE @TS)) @Sj)
def Uh := ET 20 Tryd.func99 UX U2 rfl

def Om : Af := .seq (.ops [po_ 2 (.mov (.c (.bool false)))] [0])
 (.seq (.ops [mv_ 3 0,
  mv_ 4 0,
  po_ 5 (.bin 2 .neq (.t 3) (.t 4)),
  mv_ 2 5] [2])
 (.ret))
def Pg : List VR := [.tmp 2]
theorem XX : Tryd.f100.body.bind (trC Tryd.prog Tryd.f100.ntmps) = some (er Om) := by kernel_rfl
theorem Ym : trR Tryd.prog Tryd.f100.results.toList = some Pg := by kernel_rfl
def UR := Ac Om.eq_1
theorem U6 {K : TV → Prop} {e : Env} {H : List Ob} : res Pg e H K = res [.tmp 2] e H K := Aa rfl
def XR := (And.intro @UR @U6)
def VU := ET 6 Tryd.func100 XX Ym rfl

def Rj : Af := .seq (.ops [so_ 43 (.nxtM (.t 42)),
  po_ 44 (.ext 0 (.t 43))] [8, 11, 42, 44])
 (.seq (.cond (.t 44)
 (.skip)
 (.exit 0))
 (.block 1 (.seq (.ops [po_ 45 (.gen .entM [.t 42]),
  po_ 46 (.ext 0 (.t 45)),
  so_ 12 (.alloc (.arr 20 1 [.val (.int .u8 ((0 : Nat) : Int)), .val (.int .u8 ((0 : Nat) : Int)), .val (.int .u8 ((0 : Nat) : Int)), .val (.int .u8 ((0 : Nat) : Int)), .val (.int .u8 ((0 : Nat) : Int)), .val (.int .u8 ((0 : Nat) : Int)), .val (.int .u8 ((0 : Nat) : Int)), .val (.int .u8 ((0 : Nat) : Int)), .val (.int .u8 ((0 : Nat) : Int)), .val (.int .u8 ((0 : Nat) : Int)), .val (.int .u8 ((0 : Nat) : Int)), .val (.int .u8 ((0 : Nat) : Int)), .val (.int .u8 ((0 : Nat) : Int)), .val (.int .u8 ((0 : Nat) : Int)), .val (.int .u8 ((0 : Nat) : Int)), .val (.int .u8 ((0 : Nat) : Int)), .val (.int .u8 ((0 : Nat) : Int)), .val (.int .u8 ((0 : Nat) : Int)), .val (.int .u8 ((0 : Nat) : Int)), .val (.int .u8 ((0 : Nat) : Int))])),
  ⟨none, .s (.store 20 (.t 12) (.t 46)), none⟩] [8, 11, 12, 42])
 (.ops [mv_ 47 11,
  po_ 48 (.load true 20 (.t 12)),
  ⟨none, .s (.delM (.arr 20) (.t 47) (.t 48)), none⟩] [8, 11, 42]))))
def QY : Af := .seq (.block 5 (.seq (.ops [po_ 66 (.idxA 20 (.t 62) (.t 64)),
  po_ 67 (.load true 20 (.t 66)),
  so_ 16 (.alloc (.arr 20 1 [.val (.int .u8 ((0 : Nat) : Int)), .val (.int .u8 ((0 : Nat) : Int)), .val (.int .u8 ((0 : Nat) : Int)), .val (.int .u8 ((0 : Nat) : Int)), .val (.int .u8 ((0 : Nat) : Int)), .val (.int .u8 ((0 : Nat) : Int)), .val (.int .u8 ((0 : Nat) : Int)), .val (.int .u8 ((0 : Nat) : Int)), .val (.int .u8 ((0 : Nat) : Int)), .val (.int .u8 ((0 : Nat) : Int)), .val (.int .u8 ((0 : Nat) : Int)), .val (.int .u8 ((0 : Nat) : Int)), .val (.int .u8 ((0 : Nat) : Int)), .val (.int .u8 ((0 : Nat) : Int)), .val (.int .u8 ((0 : Nat) : Int)), .val (.int .u8 ((0 : Nat) : Int)), .val (.int .u8 ((0 : Nat) : Int)), .val (.int .u8 ((0 : Nat) : Int)), .val (.int .u8 ((0 : Nat) : Int)), .val (.int .u8 ((0 : Nat) : Int))])),
  ⟨none, .s (.store 20 (.t 16) (.t 67)), none⟩] [8, 11, 13, 16, 51, 62, 63, 64])
 (.draw 4 [mv_ 68 13,
  po_ 69 (.load true 20 (.t 16)),
  po_ 70 (.gen (.look (.arr 20) (.val (.int .i64 ((0 : Nat) : Int))) false) [.t 68, .t 69]),
  po_ 71 (.bin 3 .add (.t 70) (ci_ 1)),
  so_ 72 (.ment (.arr 20) (.val (.int .i64 ((0 : Nat) : Int))) (.t 68) (.t 69)),
  po_ 73 (.ext 1 (.t 72)),
  ⟨none, .s (.mest (.t 68) (.t 73) (.t 71)), none⟩] [8, 11, 13, 51, 62, 63, 64])))
 (.ops [po_ 74 (.bin 3 .add (.t 64) (ci_ 1)),
  mv_ 64 74] [8, 11, 13, 51, 62, 63, 64])
def Q9 : Af := .seq (.cond (.t 65)
 (.skip)
 (.exit 4))
 QY
def Q4 : Af := .seq (.ops [po_ 65 (.bin 3 .lss (.t 64) (.t 63))] [8, 11, 13, 51, 62, 63, 64, 65])
 Q9
def Q7 : Af := .block 4 (.loop [8, 11, 13, 51, 62, 63, 64] Q4)
def QU : Af := .seq (.draw 8 [mv_ 56 8,
  po_ 57 (.nilc (.t 56)),
  po_ 58 (.fieldA 0 0 (.t 57)),
  po_ 59 (.load false 1 (.t 58)),
  po_ 60 (.load true 20 (.t 14)),
  po_ 61 (.gen (.look (.arr 20) (.agg [.arr 20 1 [.val (.int .u8 ((0 : Nat) : Int)), .val (.int .u8 ((0 : Nat) : Int)), .val (.int .u8 ((0 : Nat) : Int)), .val (.int .u8 ((0 : Nat) : Int)), .val (.int .u8 ((0 : Nat) : Int)), .val (.int .u8 ((0 : Nat) : Int)), .val (.int .u8 ((0 : Nat) : Int)), .val (.int .u8 ((0 : Nat) : Int)), .val (.int .u8 ((0 : Nat) : Int)), .val (.int .u8 ((0 : Nat) : Int)), .val (.int .u8 ((0 : Nat) : Int)), .val (.int .u8 ((0 : Nat) : Int)), .val (.int .u8 ((0 : Nat) : Int)), .val (.int .u8 ((0 : Nat) : Int)), .val (.int .u8 ((0 : Nat) : Int)), .val (.int .u8 ((0 : Nat) : Int)), .val (.int .u8 ((0 : Nat) : Int)), .val (.int .u8 ((0 : Nat) : Int)), .val (.int .u8 ((0 : Nat) : Int)), .val (.int .u8 ((0 : Nat) : Int))], .val (.slice none 0 0), .val (.int .i64 ((0 : Nat) : Int))]) false) [.t 59, .t 60]),
  po_ 62 (.field false 1 1 20 (.t 61)),
  po_ 63 (.lenV (.t 62)),
  po_ 64 (.mov (ci_ 0))] [8, 11, 13, 51, 62, 63, 64])
 Q7
def Qy : Af := .block 3 (.seq (.ops [po_ 54 (.gen .entM [.t 51]),
  po_ 55 (.ext 0 (.t 54)),
  so_ 14 (.alloc (.arr 20 1 [.val (.int .u8 ((0 : Nat) : Int)), .val (.int .u8 ((0 : Nat) : Int)), .val (.int .u8 ((0 : Nat) : Int)), .val (.int .u8 ((0 : Nat) : Int)), .val (.int .u8 ((0 : Nat) : Int)), .val (.int .u8 ((0 : Nat) : Int)), .val (.int .u8 ((0 : Nat) : Int)), .val (.int .u8 ((0 : Nat) : Int)), .val (.int .u8 ((0 : Nat) : Int)), .val (.int .u8 ((0 : Nat) : Int)), .val (.int .u8 ((0 : Nat) : Int)), .val (.int .u8 ((0 : Nat) : Int)), .val (.int .u8 ((0 : Nat) : Int)), .val (.int .u8 ((0 : Nat) : Int)), .val (.int .u8 ((0 : Nat) : Int)), .val (.int .u8 ((0 : Nat) : Int)), .val (.int .u8 ((0 : Nat) : Int)), .val (.int .u8 ((0 : Nat) : Int)), .val (.int .u8 ((0 : Nat) : Int)), .val (.int .u8 ((0 : Nat) : Int))])),
  ⟨none, .s (.store 20 (.t 14) (.t 55)), none⟩] [8, 11, 13, 14, 51])
 QU)
def Ri : Af := .seq (.cond (.t 53)
 (.skip)
 (.exit 2))
 Qy
def Q5 : Af := .seq (.ops [so_ 52 (.nxtM (.t 51)),
  po_ 53 (.ext 0 (.t 52))] [8, 11, 13, 51, 53])
 Ri
def O8 : Af := .block 2 (.loop [8, 11, 13, 51] Q5)
def O0 : Af := .draw 8 [mv_ 87 17,
  mv_ 88 17,
  po_ 89 (.nilc (.t 88)),
  po_ 90 (.load false 1 (.t 89)),
  mv_ 91 8,
  po_ 92 (.nilc (.t 91)),
  po_ 93 (.fieldA 0 0 (.t 92)),
  po_ 94 (.load false 1 (.t 93)),
  po_ 95 (.load true 20 (.t 18)),
  po_ 96 (.gen (.look (.arr 20) (.agg [.arr 20 1 [.val (.int .u8 ((0 : Nat) : Int)), .val (.int .u8 ((0 : Nat) : Int)), .val (.int .u8 ((0 : Nat) : Int)), .val (.int .u8 ((0 : Nat) : Int)), .val (.int .u8 ((0 : Nat) : Int)), .val (.int .u8 ((0 : Nat) : Int)), .val (.int .u8 ((0 : Nat) : Int)), .val (.int .u8 ((0 : Nat) : Int)), .val (.int .u8 ((0 : Nat) : Int)), .val (.int .u8 ((0 : Nat) : Int)), .val (.int .u8 ((0 : Nat) : Int)), .val (.int .u8 ((0 : Nat) : Int)), .val (.int .u8 ((0 : Nat) : Int)), .val (.int .u8 ((0 : Nat) : Int)), .val (.int .u8 ((0 : Nat) : Int)), .val (.int .u8 ((0 : Nat) : Int)), .val (.int .u8 ((0 : Nat) : Int)), .val (.int .u8 ((0 : Nat) : Int)), .val (.int .u8 ((0 : Nat) : Int)), .val (.int .u8 ((0 : Nat) : Int))], .val (.slice none 0 0), .val (.int .i64 ((0 : Nat) : Int))]) false) [.t 94, .t 95]),
  ⟨some 97, .s (.bslice 22 1 (.agg [.arr 20 1 [.val (.int .u8 ((0 : Nat) : Int)), .val (.int .u8 ((0 : Nat) : Int)), .val (.int .u8 ((0 : Nat) : Int)), .val (.int .u8 ((0 : Nat) : Int)), .val (.int .u8 ((0 : Nat) : Int)), .val (.int .u8 ((0 : Nat) : Int)), .val (.int .u8 ((0 : Nat) : Int)), .val (.int .u8 ((0 : Nat) : Int)), .val (.int .u8 ((0 : Nat) : Int)), .val (.int .u8 ((0 : Nat) : Int)), .val (.int .u8 ((0 : Nat) : Int)), .val (.int .u8 ((0 : Nat) : Int)), .val (.int .u8 ((0 : Nat) : Int)), .val (.int .u8 ((0 : Nat) : Int)), .val (.int .u8 ((0 : Nat) : Int)), .val (.int .u8 ((0 : Nat) : Int)), .val (.int .u8 ((0 : Nat) : Int)), .val (.int .u8 ((0 : Nat) : Int)), .val (.int .u8 ((0 : Nat) : Int)), .val (.int .u8 ((0 : Nat) : Int))], .val (.slice none 0 0), .val (.int .i64 ((0 : Nat) : Int))]) [⟨0, .t 96⟩]), none⟩,
  so_ 98 (.app 22 56 51 (.t 90) (.t 97)),
  po_ 99 (.nilc (.t 87)),
  ⟨none, .s (.store 1 (.t 99) (.t 98)), none⟩] [8, 11, 13, 17, 78]
def NT : Af := .cond (.t 86)
 O0
 (.skip)
def N7 : Af := .seq (.ops [mv_ 83 13,
  po_ 84 (.load true 20 (.t 18)),
  po_ 85 (.gen (.look (.arr 20) (.val (.int .i64 ((0 : Nat) : Int))) false) [.t 83, .t 84]),
  po_ 86 (.bin 3 .eql (.t 85) (ci_ 0))] [8, 11, 13, 17, 18, 78, 86])
 NT
def OB : Af := .block 7 (.seq (.ops [po_ 81 (.gen .entM [.t 78]),
  po_ 82 (.ext 0 (.t 81)),
  so_ 18 (.alloc (.arr 20 1 [.val (.int .u8 ((0 : Nat) : Int)), .val (.int .u8 ((0 : Nat) : Int)), .val (.int .u8 ((0 : Nat) : Int)), .val (.int .u8 ((0 : Nat) : Int)), .val (.int .u8 ((0 : Nat) : Int)), .val (.int .u8 ((0 : Nat) : Int)), .val (.int .u8 ((0 : Nat) : Int)), .val (.int .u8 ((0 : Nat) : Int)), .val (.int .u8 ((0 : Nat) : Int)), .val (.int .u8 ((0 : Nat) : Int)), .val (.int .u8 ((0 : Nat) : Int)), .val (.int .u8 ((0 : Nat) : Int)), .val (.int .u8 ((0 : Nat) : Int)), .val (.int .u8 ((0 : Nat) : Int)), .val (.int .u8 ((0 : Nat) : Int)), .val (.int .u8 ((0 : Nat) : Int)), .val (.int .u8 ((0 : Nat) : Int)), .val (.int .u8 ((0 : Nat) : Int)), .val (.int .u8 ((0 : Nat) : Int)), .val (.int .u8 ((0 : Nat) : Int))])),
  ⟨none, .s (.store 20 (.t 18) (.t 82)), none⟩] [8, 11, 13, 17, 18, 78])
 N7)
def Pi : Af := .seq (.cond (.t 80)
 (.skip)
 (.exit 6))
 OB
def NR : Af := .seq (.ops [so_ 79 (.nxtM (.t 78)),
  po_ 80 (.ext 0 (.t 79))] [8, 11, 13, 17, 78, 80])
 Pi
def Po : Af := .block 6 (.ownB 17 [] 22 (.loop [8, 11, 13, 17, 78] NR))
def Oc : Af := .draw 6 [mv_ 139 17,
  po_ 140 (.iface 64 (.t 139)),
  mv_ 141 8,
  po_ 142 (.nilc (.t 141)),
  po_ 143 (.fieldA 0 0 (.t 142)),
  po_ 144 (.load false 1 (.t 143)),
  po_ 145 (.load true 20 (.t 22)),
  po_ 146 (.gen (.look (.arr 20) (.agg [.arr 20 1 [.val (.int .u8 ((0 : Nat) : Int)), .val (.int .u8 ((0 : Nat) : Int)), .val (.int .u8 ((0 : Nat) : Int)), .val (.int .u8 ((0 : Nat) : Int)), .val (.int .u8 ((0 : Nat) : Int)), .val (.int .u8 ((0 : Nat) : Int)), .val (.int .u8 ((0 : Nat) : Int)), .val (.int .u8 ((0 : Nat) : Int)), .val (.int .u8 ((0 : Nat) : Int)), .val (.int .u8 ((0 : Nat) : Int)), .val (.int .u8 ((0 : Nat) : Int)), .val (.int .u8 ((0 : Nat) : Int)), .val (.int .u8 ((0 : Nat) : Int)), .val (.int .u8 ((0 : Nat) : Int)), .val (.int .u8 ((0 : Nat) : Int)), .val (.int .u8 ((0 : Nat) : Int)), .val (.int .u8 ((0 : Nat) : Int)), .val (.int .u8 ((0 : Nat) : Int)), .val (.int .u8 ((0 : Nat) : Int)), .val (.int .u8 ((0 : Nat) : Int))], .val (.slice none 0 0), .val (.int .i64 ((0 : Nat) : Int))]) false) [.t 144, .t 145]),
  po_ 147 (.iface 51 (.t 146)),
  so_ 148 (.call 26 [.t 140, .t 147])] [8, 11, 13, 17, 19, 118, 119, 120]
def OD : Af := .seq (.ops [mv_ 130 13,
  po_ 131 (.load true 20 (.t 22)),
  po_ 132 (.gen (.look (.arr 20) (.val (.int .i64 ((0 : Nat) : Int))) false) [.t 130, .t 131]),
  po_ 133 (.bin 3 .eql (.t 132) (ci_ 0)),
  mv_ 134 133,
  ⟨some 135, .p (.mov (.t 11)), some ⟨134, true⟩⟩,
  ⟨some 136, .p (.load true 20 (.t 22)), some ⟨134, true⟩⟩,
  ⟨some 137, .s (.call 25 [.t 135, .t 136]), some ⟨134, true⟩⟩,
  po_ 138 (.pick (.t 134) (.t 137) (.c (.bool false)))] [8, 11, 13, 17, 19, 22, 118, 119, 120, 138])
 (.cond (.t 138)
 Oc
 (.skip))
def O1 : Af := .seq (.draw 4 [mv_ 124 13,
  po_ 125 (.load true 20 (.t 22)),
  po_ 126 (.gen (.look (.arr 20) (.val (.int .i64 ((0 : Nat) : Int))) false) [.t 124, .t 125]),
  po_ 127 (.bin 3 .sub (.t 126) (ci_ 1)),
  so_ 128 (.ment (.arr 20) (.val (.int .i64 ((0 : Nat) : Int))) (.t 124) (.t 125)),
  po_ 129 (.ext 1 (.t 128)),
  ⟨none, .s (.mest (.t 124) (.t 129) (.t 127)), none⟩] [8, 11, 13, 17, 19, 22, 118, 119, 120])
 OD
def Ov : Af := .seq (.block 11 (.seq (.ops [po_ 122 (.idxA 20 (.t 118) (.t 120)),
  po_ 123 (.load true 20 (.t 122)),
  so_ 22 (.alloc (.arr 20 1 [.val (.int .u8 ((0 : Nat) : Int)), .val (.int .u8 ((0 : Nat) : Int)), .val (.int .u8 ((0 : Nat) : Int)), .val (.int .u8 ((0 : Nat) : Int)), .val (.int .u8 ((0 : Nat) : Int)), .val (.int .u8 ((0 : Nat) : Int)), .val (.int .u8 ((0 : Nat) : Int)), .val (.int .u8 ((0 : Nat) : Int)), .val (.int .u8 ((0 : Nat) : Int)), .val (.int .u8 ((0 : Nat) : Int)), .val (.int .u8 ((0 : Nat) : Int)), .val (.int .u8 ((0 : Nat) : Int)), .val (.int .u8 ((0 : Nat) : Int)), .val (.int .u8 ((0 : Nat) : Int)), .val (.int .u8 ((0 : Nat) : Int)), .val (.int .u8 ((0 : Nat) : Int)), .val (.int .u8 ((0 : Nat) : Int)), .val (.int .u8 ((0 : Nat) : Int)), .val (.int .u8 ((0 : Nat) : Int)), .val (.int .u8 ((0 : Nat) : Int))])),
  ⟨none, .s (.store 20 (.t 22) (.t 123)), none⟩] [8, 11, 13, 17, 19, 22, 118, 119, 120])
 O1))
 (.ops [po_ 149 (.bin 3 .add (.t 120) (ci_ 1)),
  mv_ 120 149] [8, 11, 13, 17, 19, 118, 119, 120])
def Ou : Af := .seq (.cond (.t 121)
 (.skip)
 (.exit 10))
 Ov
def OZ : Af := .seq (.ops [po_ 121 (.bin 3 .lss (.t 120) (.t 119))] [8, 11, 13, 17, 19, 118, 119, 120, 121])
 Ou
def Jm : Af := .block 10 (.loop [8, 11, 13, 17, 19, 118, 119, 120] OZ)
def Oi : Af := .seq (.ops [po_ 117 (.fieldA 1 20 (.t 20)),
  po_ 118 (.load false 1 (.t 117)),
  po_ 119 (.lenV (.t 118)),
  po_ 120 (.mov (ci_ 0))] [8, 11, 13, 17, 19, 118, 119, 120])
 Jm
def Pn : Af := .seq (.ops [mv_ 112 19,
  po_ 113 (.fieldA 0 0 (.t 20)),
  po_ 114 (.load true 20 (.t 113)),
  ⟨some 115, .s (.bslice 20 1 (.arr 20 1 [.val (.int .u8 ((0 : Nat) : Int)), .val (.int .u8 ((0 : Nat) : Int)), .val (.int .u8 ((0 : Nat) : Int)), .val (.int .u8 ((0 : Nat) : Int)), .val (.int .u8 ((0 : Nat) : Int)), .val (.int .u8 ((0 : Nat) : Int)), .val (.int .u8 ((0 : Nat) : Int)), .val (.int .u8 ((0 : Nat) : Int)), .val (.int .u8 ((0 : Nat) : Int)), .val (.int .u8 ((0 : Nat) : Int)), .val (.int .u8 ((0 : Nat) : Int)), .val (.int .u8 ((0 : Nat) : Int)), .val (.int .u8 ((0 : Nat) : Int)), .val (.int .u8 ((0 : Nat) : Int)), .val (.int .u8 ((0 : Nat) : Int)), .val (.int .u8 ((0 : Nat) : Int)), .val (.int .u8 ((0 : Nat) : Int)), .val (.int .u8 ((0 : Nat) : Int)), .val (.int .u8 ((0 : Nat) : Int)), .val (.int .u8 ((0 : Nat) : Int))]) [⟨0, .t 114⟩]), none⟩,
  so_ 116 (.app 20 20 40 (.t 112) (.t 115)),
  mv_ 19 116] [8, 11, 13, 17, 19, 20])
 Oi
def O7 : Af := .block 9 (.seq (.ops [mv_ 108 17,
  po_ 109 (.iface 64 (.t 108)),
  so_ 110 (.call 24 [.t 109]),
  po_ 111 (.gen (.tas 51) [.t 110]),
  so_ 20 (.alloc (.agg [.arr 20 1 [.val (.int .u8 ((0 : Nat) : Int)), .val (.int .u8 ((0 : Nat) : Int)), .val (.int .u8 ((0 : Nat) : Int)), .val (.int .u8 ((0 : Nat) : Int)), .val (.int .u8 ((0 : Nat) : Int)), .val (.int .u8 ((0 : Nat) : Int)), .val (.int .u8 ((0 : Nat) : Int)), .val (.int .u8 ((0 : Nat) : Int)), .val (.int .u8 ((0 : Nat) : Int)), .val (.int .u8 ((0 : Nat) : Int)), .val (.int .u8 ((0 : Nat) : Int)), .val (.int .u8 ((0 : Nat) : Int)), .val (.int .u8 ((0 : Nat) : Int)), .val (.int .u8 ((0 : Nat) : Int)), .val (.int .u8 ((0 : Nat) : Int)), .val (.int .u8 ((0 : Nat) : Int)), .val (.int .u8 ((0 : Nat) : Int)), .val (.int .u8 ((0 : Nat) : Int)), .val (.int .u8 ((0 : Nat) : Int)), .val (.int .u8 ((0 : Nat) : Int))], .val (.slice none 0 0), .val (.int .i64 ((0 : Nat) : Int))])),
  ⟨none, .s (.store 22 (.t 20) (.t 111)), none⟩] [8, 11, 13, 17, 19, 20])
 Pn)
def N8 : Af := .seq (.seq (.ops [mv_ 103 17,
  po_ 104 (.nilc (.t 103)),
  po_ 105 (.load false 1 (.t 104)),
  so_ 106 (.call 23 [.t 105]),
  po_ 107 (.bin 3 .gtr (.t 106) (ci_ 0))] [8, 11, 13, 17, 19, 107])
 (.cond (.t 107)
 (.skip)
 (.exit 8)))
 O7
def OG : Af := .seq (.ops [mv_ 150 19,
  mv_ 6 150,
  po_ 7 (.mov (.c .nilIface))] [6, 7])
 (.ret)
def OA : Af := .seq (.block 8 (.own 19 20 (.loop [8, 11, 13, 17, 19] N8)))
 OG
def Jc : Af := .seq (.ops [po_ 19 (.mov (.c (.slice none 0 0)))] [8, 11, 13, 17, 19])
 OA
def O9 : Af := .seq (.ops [mv_ 100 17,
  po_ 101 (.iface 64 (.t 100)),
  so_ 102 (.call 22 [.t 101])] [8, 11, 13, 17])
 Jc
def OT : Af := .seq (.seq (.ops [mv_ 77 11,
  so_ 78 (.rngM (.t 77))] [8, 11, 13, 17, 78])
 Po)
 O9
def Jd : Af := .seq (.ops [so_ 75 (.bslice 22 0 (.agg [.arr 20 1 [.val (.int .u8 ((0 : Nat) : Int)), .val (.int .u8 ((0 : Nat) : Int)), .val (.int .u8 ((0 : Nat) : Int)), .val (.int .u8 ((0 : Nat) : Int)), .val (.int .u8 ((0 : Nat) : Int)), .val (.int .u8 ((0 : Nat) : Int)), .val (.int .u8 ((0 : Nat) : Int)), .val (.int .u8 ((0 : Nat) : Int)), .val (.int .u8 ((0 : Nat) : Int)), .val (.int .u8 ((0 : Nat) : Int)), .val (.int .u8 ((0 : Nat) : Int)), .val (.int .u8 ((0 : Nat) : Int)), .val (.int .u8 ((0 : Nat) : Int)), .val (.int .u8 ((0 : Nat) : Int)), .val (.int .u8 ((0 : Nat) : Int)), .val (.int .u8 ((0 : Nat) : Int)), .val (.int .u8 ((0 : Nat) : Int)), .val (.int .u8 ((0 : Nat) : Int)), .val (.int .u8 ((0 : Nat) : Int)), .val (.int .u8 ((0 : Nat) : Int))], .val (.slice none 0 0), .val (.int .i64 ((0 : Nat) : Int))]) []),
  so_ 76 (.box (.t 75)),
  mv_ 17 76] [8, 11, 13, 17])
 OT
def O5 : Af := .seq (.seq (.ops [mv_ 50 11,
  so_ 51 (.rngM (.t 50))] [8, 11, 13, 51])
 O8)
 Jd
def Jl : Af := .seq (.ops [so_ 49 (.mkm (.arr 20) none),
  mv_ 13 49] [8, 11, 13])
 O5
def Je : Af := .seq (.seq (.ops [mv_ 41 10,
  so_ 42 (.rngM (.t 41))] [8, 11, 42])
 (.block 0 (.loop [8, 11, 42] Rj)))
 Jl
def Pj : Af := .seq (.ops [mv_ 38 8,
  mv_ 39 1,
  so_ 40 (.call 21 [.t 38, .t 39]),
  mv_ 11 40] [8, 10, 11])
 Je
def OY : Af := .seq (.ops [mv_ 35 8,
  mv_ 36 2,
  so_ 37 (.call 21 [.t 35, .t 36]),
  mv_ 10 37] [1, 8, 10])
 Pj
def OI : Af := .seq (.seq (.ops [mv_ 32 9,
  po_ 33 (.eqN 1 (.t 32) (.c .nilIface) true)] [1, 2, 8, 9, 33])
 (.cond (.t 33)
 (.seq (.ops [mv_ 34 9,
   po_ 6 (.mov (.c (.slice none 0 0))),
   mv_ 7 34] [6, 7])
  (.ret))
 (.skip)))
 OY
def Oe : Af := .seq (.ops [mv_ 24 0,
  mv_ 25 1,
  mv_ 26 2,
  ⟨some 27, .s (.bslice 1 2 (.val (.slice none 0 0)) [⟨0, .t 25⟩, ⟨1, .t 26⟩]), none⟩,
  so_ 28 (.call 20 [.t 27]),
  so_ 29 (.call 19 [.t 24, .t 28]),
  mv_ 23 29,
  po_ 30 (.ext 0 (.t 23)),
  po_ 31 (.ext 1 (.t 23)),
  mv_ 8 30,
  mv_ 9 31] [1, 2, 8, 9])
 OI
def XB : Af := .seq (.ops [po_ 6 (.mov (.c (.slice none 0 0))),
  po_ 7 (.mov (.c .nilIface))] [0, 1, 2])
 Oe
def Ff : List VR := [.tmp 6, .tmp 7]
theorem Aa1 : Tryd.f7.body.bind (trC Tryd.prog Tryd.f7.ntmps) = some (er XB) := by kernel_rfl
theorem AaV : trR Tryd.prog Tryd.f7.results.toList = some Ff := by kernel_rfl
def MX := Ac Rj.eq_1
def VX := Ac QY.eq_1
def Nq := Ac Q9.eq_1
def MS := Ac Q4.eq_1
def Wq := Ac Q7.eq_1
def WX := Ac QU.eq_1
def WU := Ac Qy.eq_1
def Nr := Ac Ri.eq_1
def Xh := Ac Q5.eq_1
def Vp := Ac O8.eq_1
def Vj := Ac O0.eq_1
def L9 := Ac NT.eq_1
def LX := Ac N7.eq_1
def LD := Ac OB.eq_1
def F9 := Ac Pi.eq_1
def VD := Ac NR.eq_1
def Vr := Ac Po.eq_1
def U5 := Ac Oc.eq_1
def Lr := Ac OD.eq_1
def Lc := Ac O1.eq_1
def Lp := Ac Ov.eq_1
def Gw := Ac Ou.eq_1
def Gl := Ac OZ.eq_1
def U8 := Ac Jm.eq_1
def VH := Ac Oi.eq_1
def VI := Ac Pn.eq_1
def LZ := Ac O7.eq_1
def Vx := Ac N8.eq_1
def UO := Ac OG.eq_1
def VB := Ac OA.eq_1
def UQ := Ac Jc.eq_1
def UY := Ac O9.eq_1
def U3 := Ac OT.eq_1
def Ve := Ac Jd.eq_1
def Vy := Ac O5.eq_1
def VJ := Ac Jl.eq_1
def VM := Ac Je.eq_1
def Vt := Ac Pj.eq_1
def VN := Ac OY.eq_1
def LG := Ac OI.eq_1
def LW := Ac Oe.eq_1
def RY := Ac XB.eq_1
theorem Tm {K : TV → Prop} {e : Env} {H : List Ob} : res Ff e H K = res [.tmp 6, .tmp 7] e H K := Aa rfl
def Aac := ET 151 Tryd.func7 Aa1 AaV rfl

def Ef : Af := .seq (.block 1 (.seq (.ops [po_ 13 (.idxA 1 (.t 9) (.t 11)),
  po_ 14 (.load false 1 (.t 13)),
  mv_ 5 14] [0, 3, 5, 9, 10, 11])
 (.seq (.ops [mv_ 15 3,
  mv_ 16 5,
  po_ 17 (.lenV (.t 16)),
  po_ 18 (.bin 3 .add (.t 15) (.t 17)),
  mv_ 3 18] [0, 3, 9, 10, 11])
 (.seq (.ops [mv_ 19 3,
  po_ 20 (.bin 3 .lss (.t 19) (ci_ 0))] [0, 3, 9, 10, 11, 20])
 (.cond (.t 20)
 (.pops [po_ 21 (.iface 9 (.c (.string (str [108, 101, 110, 32, 111, 117, 116, 32, 111, 102, 32, 114, 97, 110, 103, 101])))),
   ⟨none, .s (.pan (.t 21)), none⟩] [0, 3, 9, 10, 11])
 (.skip))))))
 (.ops [po_ 22 (.bin 3 .add (.t 11) (ci_ 1)),
  mv_ 11 22] [0, 3, 9, 10, 11])
def Eg : Af := .seq (.cond (.t 12)
 (.skip)
 (.exit 0))
 Ef
def Ee : Af := .seq (.ops [po_ 12 (.bin 3 .lss (.t 11) (.t 10))] [0, 3, 9, 10, 11, 12])
 Eg
def Eh : Af := .block 0 (.loop [0, 3, 9, 10, 11] Ee)
def BI : Af := .seq (.ops [po_ 28 (.bin 3 .lss (.t 27) (.t 26))] [6, 25, 26, 27, 28])
 (.seq (.cond (.t 28)
 (.skip)
 (.exit 2))
 (.seq (.block 3 (.seq (.ops [po_ 29 (.idxA 1 (.t 25) (.t 27)),
  po_ 30 (.load false 1 (.t 29)),
  mv_ 8 30] [6, 8, 25, 26, 27])
 (.ops [mv_ 31 6,
  mv_ 32 8,
  so_ 33 (.app 20 20 40 (.t 31) (.t 32)),
  mv_ 6 33] [6, 25, 26, 27])))
 (.ops [po_ 34 (.bin 3 .add (.t 27) (ci_ 1)),
  mv_ 27 34] [6, 25, 26, 27])))
def BJ : Af := .seq (.ops [mv_ 35 6,
  mv_ 2 35] [2])
 (.ret)
def En : Af := .seq (.seq (.ops [mv_ 25 0,
  po_ 26 (.lenV (.t 25)),
  po_ 27 (.mov (ci_ 0))] [6, 25, 26, 27])
 (.block 2 (.own 6 20 (.loop [6, 25, 26, 27] BI))))
 BJ
def Ei : Af := .seq (.ops [mv_ 23 3,
  so_ 24 (.call 37 [.c (.slice none 0 0), .t 23]),
  mv_ 6 24] [0, 6])
 En
def Ej : Af := .seq (.seq (.ops [mv_ 9 0,
  po_ 10 (.lenV (.t 9)),
  po_ 11 (.mov (ci_ 0))] [0, 3, 9, 10, 11])
 Eh)
 Ei
def D9 : Af := .seq (.ops [po_ 3 (.mov (ci_ 0))] [0, 3])
 Ej
def EH : Af := .seq (.ops [po_ 2 (.mov (.c (.slice none 0 0)))] [0])
 D9
def Cb : List VR := [.tmp 2]
theorem Ku : Tryd.f20.body.bind (trC Tryd.prog Tryd.f20.ntmps) = some (er EH) := by kernel_rfl
theorem Kv : trR Tryd.prog Tryd.f20.results.toList = some Cb := by kernel_rfl
def Hm := Ac Ef.eq_1
def Dq := Ac Eg.eq_1
def Dv := Ac Ee.eq_1
def Hr := Ac Eh.eq_1
def Ho := Ac BI.eq_1
def Hu := Ac BJ.eq_1
def BB := Ac En.eq_1
def Dp := Ac Ei.eq_1
def Ht := Ac Ej.eq_1
def Gp := Ac D9.eq_1
def Jb := Ac EH.eq_1
theorem Jg {K : TV → Prop} {e : Env} {H : List Ob} : res Cb e H K = res [.tmp 2] e H K := Aa rfl
def Bo := (And.intro (And.intro (And.intro (And.intro @Hm @Dq) (And.intro @Dv @Hr)) (And.intro (And.intro @Ho @Hu) (And.intro @BB @Dp))) (And.intro (And.intro @Ht @Gp) (And.intro @Jb @Jg)))
def J6 := ET 36 Tryd.func20 Ku Kv rfl

def EC : Af := .ops [mv_ 17 0,
  mv_ 18 0,
  po_ 19 (.gen .capV [.t 18]),
  po_ 20 (.slV 20 (.t 17) none (some (.t 19))),
  mv_ 21 1,
  so_ 22 (.appZ 20 20 (.arr 20 1 [.val (.int .u8 ((0 : Nat) : Int)), .val (.int .u8 ((0 : Nat) : Int)), .val (.int .u8 ((0 : Nat) : Int)), .val (.int .u8 ((0 : Nat) : Int)), .val (.int .u8 ((0 : Nat) : Int)), .val (.int .u8 ((0 : Nat) : Int)), .val (.int .u8 ((0 : Nat) : Int)), .val (.int .u8 ((0 : Nat) : Int)), .val (.int .u8 ((0 : Nat) : Int)), .val (.int .u8 ((0 : Nat) : Int)), .val (.int .u8 ((0 : Nat) : Int)), .val (.int .u8 ((0 : Nat) : Int)), .val (.int .u8 ((0 : Nat) : Int)), .val (.int .u8 ((0 : Nat) : Int)), .val (.int .u8 ((0 : Nat) : Int)), .val (.int .u8 ((0 : Nat) : Int)), .val (.int .u8 ((0 : Nat) : Int)), .val (.int .u8 ((0 : Nat) : Int)), .val (.int .u8 ((0 : Nat) : Int)), .val (.int .u8 ((0 : Nat) : Int))]) (.t 20) (.t 21)),
  mv_ 23 0,
  po_ 24 (.lenV (.t 23)),
  po_ 25 (.slV 20 (.t 22) none (some (.t 24))),
  mv_ 0 25] [0]
def EF : Af := .seq (.seq (.ops [mv_ 8 1,
  mv_ 9 0,
  po_ 10 (.gen .capV [.t 9]),
  mv_ 11 0,
  po_ 12 (.lenV (.t 11)),
  po_ 13 (.bin 3 .sub (.t 10) (.t 12)),
  po_ 14 (.bin 3 .sub (.t 8) (.t 13)),
  mv_ 1 14] [0, 1])
 (.seq (.ops [mv_ 15 1,
  po_ 16 (.bin 3 .gtr (.t 15) (ci_ 0))] [0, 1, 16])
 (.cond (.t 16)
 EC
 (.skip))))
 (.seq (.ops [mv_ 26 0,
  mv_ 4 26] [4])
 (.ret))
def Ez : Af := .seq (.seq (.ops [mv_ 5 1,
  po_ 6 (.bin 3 .lss (.t 5) (ci_ 0))] [0, 1, 6])
 (.cond (.t 6)
 (.pops [po_ 7 (.iface 9 (.c (.string (str [99, 97, 110, 110, 111, 116, 32, 98, 101, 32, 110, 101, 103, 97, 116, 105, 118, 101])))),
   ⟨none, .s (.pan (.t 7)), none⟩] [0, 1])
 (.skip)))
 EF
def E5 : Af := .seq (.ops [po_ 4 (.mov (.c (.slice none 0 0)))] [0, 1])
 Ez
def EU : List VR := [.tmp 4]
theorem Lj : Tryd.f37.body.bind (trC Tryd.prog Tryd.f37.ntmps) = some (er E5) := by kernel_rfl
theorem LU : trR Tryd.prog Tryd.f37.results.toList = some EU := by kernel_rfl
def IG := Ac EC.eq_1
def II := Ac EF.eq_1
def IA := Ac Ez.eq_1
def Kw := Ac E5.eq_1
theorem Kt {K : TV → Prop} {e : Env} {H : List Ob} : res EU e H K = res [.tmp 4] e H K := Aa rfl
def EW := (And.intro (And.intro (And.intro @IG @II) (And.intro @IA @Kw)) @Kt)
def KT := ET 27 Tryd.func37 Lj LU rfl




def KG : Af := .seq (.ops [mv_ 67 9,
  so_ 68 (.call 12 [.t 67]),
  po_ 69 (.bin 36 .eql (.t 68) (ci_ 80)),
  mv_ 70 69,
  ⟨some 71, .p (.mov (.t 8)), some ⟨70, true⟩⟩,
  ⟨some 72, .p (.lenV (.t 71)), some ⟨70, true⟩⟩,
  ⟨some 73, .p (.bin 3 .eql (.t 72) (ci_ 0)), some ⟨70, true⟩⟩,
  po_ 74 (.pick (.t 70) (.t 73) (.c (.bool false))),
  mv_ 6 74] [6])
 (.ret)
def KA : Af := .seq (.block 3 (.seq (.draw 17 [mv_ 119 0,
  mv_ 120 0,
  mv_ 121 18,
  po_ 122 (.idxA 22 (.t 120) (.t 121)),
  po_ 123 (.fieldA 0 0 (.t 122)),
  po_ 124 (.load true 20 (.t 123)),
  mv_ 125 0,
  mv_ 126 18,
  po_ 127 (.idxA 22 (.t 125) (.t 126)),
  po_ 128 (.fieldA 1 20 (.t 127)),
  po_ 129 (.load false 1 (.t 128)),
  mv_ 130 19,
  po_ 131 (.idxA 20 (.t 129) (.t 130)),
  po_ 132 (.load true 20 (.t 131)),
  so_ 133 (.call 13 [.t 119, .t 124, .t 132]),
  mv_ 118 133,
  po_ 134 (.ext 0 (.t 118)),
  po_ 135 (.ext 1 (.t 118)),
  mv_ 20 134,
  mv_ 21 135] [0, 4, 5, 8, 18, 19, 20])
 (.seq (.ops [mv_ 136 20,
  po_ 137 (.un .not (.t 136))] [0, 4, 5, 8, 18, 19, 137])
 (.cond (.t 137)
 (.seq (.ops [po_ 6 (.mov (.c (.bool false)))] [6])
  (.ret))
 (.skip)))))
 (.ops [mv_ 116 19,
  po_ 117 (.bin 3 .add (.t 116) (ci_ 1)),
  mv_ 19 117] [0, 4, 5, 8, 18, 19])
def KH : Af := .seq (.seq (.ops [mv_ 108 19,
  mv_ 109 0,
  mv_ 110 18,
  po_ 111 (.idxA 22 (.t 109) (.t 110)),
  po_ 112 (.fieldA 1 20 (.t 111)),
  po_ 113 (.load false 1 (.t 112)),
  po_ 114 (.lenV (.t 113)),
  po_ 115 (.bin 3 .lss (.t 108) (.t 114))] [0, 4, 5, 8, 18, 19, 115])
 (.cond (.t 115)
 (.skip)
 (.exit 2)))
 KA
def KE : Af := .block 2 (.loop [0, 4, 5, 8, 18, 19] KH)
def FB : Af := .seq (.draw 24 [mv_ 198 8,
  mv_ 199 27,
  po_ 200 (.idxA 20 (.t 198) (.t 199)),
  po_ 201 (.load true 20 (.t 200)),
  mv_ 202 0,
  mv_ 203 18,
  po_ 204 (.idxA 22 (.t 202) (.t 203)),
  po_ 205 (.fieldA 0 0 (.t 204)),
  po_ 206 (.load true 20 (.t 205)),
  po_ 207 (.gen (.eqA 20 false) [.t 201, .t 206]),
  mv_ 208 207,
  ⟨some 209, .p (.mov (.t 22)), some ⟨208, true⟩⟩,
  ⟨some 210, .p (.un .not (.t 209)), some ⟨208, true⟩⟩,
  ⟨some 211, .p (.mov (.t 210)), some ⟨208, true⟩⟩,
  ⟨some 212, .p (.mov (.t 24)), some ⟨211, false⟩⟩,
  ⟨some 213, .p (.un .not (.t 212)), some ⟨211, false⟩⟩,
  ⟨some 214, .p (.pick (.t 211) (.c (.bool true)) (.t 213)), some ⟨208, true⟩⟩,
  po_ 215 (.pick (.t 208) (.t 214) (.c (.bool false))),
  mv_ 216 215,
  ⟨some 217, .p (.mov (.t 8)), some ⟨216, false⟩⟩,
  ⟨some 218, .p (.mov (.t 27)), some ⟨216, false⟩⟩,
  ⟨some 219, .p (.idxA 20 (.t 217) (.t 218)), some ⟨216, false⟩⟩,
  ⟨some 220, .p (.load true 20 (.t 219)), some ⟨216, false⟩⟩,
  ⟨some 221, .p (.mov (.t 0)), some ⟨216, false⟩⟩,
  ⟨some 222, .p (.mov (.t 18)), some ⟨216, false⟩⟩,
  ⟨some 223, .p (.idxA 22 (.t 221) (.t 222)), some ⟨216, false⟩⟩,
  ⟨some 224, .p (.fieldA 0 0 (.t 223)), some ⟨216, false⟩⟩,
  ⟨some 225, .p (.load true 20 (.t 224)), some ⟨216, false⟩⟩,
  ⟨some 226, .p (.gen (.eqA 20 true) [.t 220, .t 225]), some ⟨216, false⟩⟩,
  ⟨some 227, .p (.mov (.t 226)), some ⟨216, false⟩⟩,
  ⟨some 228, .p (.mov (.t 30)), some ⟨227, true⟩⟩,
  ⟨some 229, .p (.pick (.t 227) (.t 228) (.c (.bool false))), some ⟨216, false⟩⟩,
  ⟨some 230, .p (.mov (.t 229)), some ⟨216, false⟩⟩,
  ⟨some 231, .p (.mov (.t 22)), some ⟨230, true⟩⟩,
  ⟨some 232, .p (.pick (.t 230) (.t 231) (.c (.bool false))), some ⟨216, false⟩⟩,
  ⟨some 233, .p (.mov (.t 232)), some ⟨216, false⟩⟩,
  ⟨some 234, .p (.mov (.t 24)), some ⟨233, true⟩⟩,
  ⟨some 235, .p (.pick (.t 233) (.t 234) (.c (.bool false))), some ⟨216, false⟩⟩,
  po_ 236 (.pick (.t 216) (.c (.bool true)) (.t 235))] [0, 4, 5, 8, 18, 22, 24, 26, 27, 236])
 (.cond (.t 236)
 (.seq (.ops [po_ 6 (.mov (.c (.bool false)))] [6])
  (.ret))
 (.skip))
def KI : Af := .seq (.draw 13 [mv_ 185 0,
  mv_ 186 0,
  mv_ 187 18,
  po_ 188 (.idxA 22 (.t 186) (.t 187)),
  po_ 189 (.fieldA 0 0 (.t 188)),
  po_ 190 (.load true 20 (.t 189)),
  mv_ 191 8,
  mv_ 192 27,
  po_ 193 (.idxA 20 (.t 191) (.t 192)),
  po_ 194 (.load true 20 (.t 193)),
  so_ 195 (.call 13 [.t 185, .t 190, .t 194]),
  mv_ 184 195,
  po_ 196 (.ext 0 (.t 184)),
  po_ 197 (.ext 1 (.t 184)),
  mv_ 30 196,
  mv_ 31 197] [0, 4, 5, 8, 18, 22, 24, 26, 27, 30])
 FB
def KQ : Af := .seq (.ops [mv_ 180 26,
  mv_ 181 180,
  ⟨some 182, .p (.mov (.t 28)), some ⟨181, false⟩⟩,
  po_ 183 (.pick (.t 181) (.c (.bool true)) (.t 182)),
  mv_ 26 183] [0, 4, 5, 8, 18, 22, 24, 26, 27])
 KI
def FO : Af := .seq (.block 5 (.seq (.draw 13 [mv_ 167 0,
  mv_ 168 8,
  mv_ 169 27,
  po_ 170 (.idxA 20 (.t 168) (.t 169)),
  po_ 171 (.load true 20 (.t 170)),
  mv_ 172 0,
  mv_ 173 18,
  po_ 174 (.idxA 22 (.t 172) (.t 173)),
  po_ 175 (.fieldA 0 0 (.t 174)),
  po_ 176 (.load true 20 (.t 175)),
  so_ 177 (.call 13 [.t 167, .t 171, .t 176]),
  mv_ 166 177,
  po_ 178 (.ext 0 (.t 166)),
  po_ 179 (.ext 1 (.t 166)),
  mv_ 28 178,
  mv_ 29 179] [0, 4, 5, 8, 18, 22, 24, 26, 27, 28])
 KQ))
 (.ops [mv_ 164 27,
  po_ 165 (.bin 3 .add (.t 164) (ci_ 1)),
  mv_ 27 165] [0, 4, 5, 8, 18, 22, 24, 26, 27])
def KO : Af := .seq (.seq (.ops [mv_ 160 27,
  mv_ 161 8,
  po_ 162 (.lenV (.t 161)),
  po_ 163 (.bin 3 .lss (.t 160) (.t 162))] [0, 4, 5, 8, 18, 22, 24, 26, 27, 163])
 (.cond (.t 163)
 (.skip)
 (.exit 4)))
 FO
def JK : Af := .block 4 (.loop [0, 4, 5, 8, 18, 22, 24, 26, 27] KO)
def JZ : Af := .seq (.ops [mv_ 237 22,
  mv_ 238 237,
  ⟨some 239, .p (.mov (.t 24)), some ⟨238, true⟩⟩,
  po_ 240 (.pick (.t 238) (.t 239) (.c (.bool false))),
  mv_ 241 26,
  po_ 242 (.eqB (.t 240) (.t 241) true)] [0, 4, 5, 8, 18, 242])
 (.cond (.t 242)
 (.seq (.ops [po_ 6 (.mov (.c (.bool false)))] [6])
  (.ret))
 (.skip))
def J4 : Af := .seq (.seq (.ops [po_ 27 (.mov (ci_ 0))] [0, 4, 5, 8, 18, 22, 24, 26, 27])
 JK)
 JZ
def J8 : Af := .seq (.ops [po_ 26 (.mov (.c (.bool false)))] [0, 4, 5, 8, 18, 22, 24, 26])
 J4
def JM : Af := .seq (.draw 10 [mv_ 150 0,
  po_ 151 (.load true 20 (.t 5)),
  mv_ 152 0,
  mv_ 153 18,
  po_ 154 (.idxA 22 (.t 152) (.t 153)),
  po_ 155 (.fieldA 0 0 (.t 154)),
  po_ 156 (.load true 20 (.t 155)),
  so_ 157 (.call 13 [.t 150, .t 151, .t 156]),
  mv_ 149 157,
  po_ 158 (.ext 0 (.t 149)),
  po_ 159 (.ext 1 (.t 149)),
  mv_ 24 158,
  mv_ 25 159] [0, 4, 5, 8, 18, 22, 24])
 J8
def JI : Af := .seq (.draw 10 [mv_ 139 0,
  po_ 140 (.load true 20 (.t 4)),
  mv_ 141 0,
  mv_ 142 18,
  po_ 143 (.idxA 22 (.t 141) (.t 142)),
  po_ 144 (.fieldA 0 0 (.t 143)),
  po_ 145 (.load true 20 (.t 144)),
  so_ 146 (.call 13 [.t 139, .t 140, .t 145]),
  mv_ 138 146,
  po_ 147 (.ext 0 (.t 138)),
  po_ 148 (.ext 1 (.t 138)),
  mv_ 22 147,
  mv_ 23 148] [0, 4, 5, 8, 18, 22])
 JM
def JR : Af := .ops [mv_ 106 18,
  po_ 107 (.bin 3 .add (.t 106) (ci_ 1)),
  mv_ 18 107] [0, 4, 5, 8, 18]
def JS : Af := .seq (.block 1 (.seq (.seq (.ops [po_ 19 (.mov (ci_ 0))] [0, 4, 5, 8, 18, 19])
 KE)
 JI))
 JR
def JA : Af := .seq (.seq (.ops [mv_ 102 18,
  mv_ 103 0,
  po_ 104 (.lenV (.t 103)),
  po_ 105 (.bin 3 .lss (.t 102) (.t 104))] [0, 4, 5, 8, 18, 105])
 (.cond (.t 105)
 (.skip)
 (.exit 0)))
 JS
def JH : Af := .block 0 (.loop [0, 4, 5, 8, 18] JA)
def JW : Af := .seq (.ops [po_ 6 (.mov (.c (.bool true)))] [6])
 (.ret)
def JE : Af := .seq (.seq (.ops [po_ 18 (.mov (ci_ 0))] [0, 4, 5, 8, 18])
 JH)
 JW
def Jw : Af := .seq (.seq (.ops [mv_ 90 15,
  so_ 91 (.call 12 [.t 90]),
  po_ 92 (.bin 36 .neq (.t 91) (ci_ 0)),
  mv_ 93 92,
  ⟨some 94, .p (.mov (.t 14)), some ⟨93, false⟩⟩,
  ⟨some 95, .p (.lenV (.t 94)), some ⟨93, false⟩⟩,
  ⟨some 96, .p (.bin 3 .eql (.t 95) (ci_ 0)), some ⟨93, false⟩⟩,
  po_ 97 (.pick (.t 93) (.c (.bool true)) (.t 96)),
  mv_ 98 97,
  ⟨some 99, .p (.mov (.t 16)), some ⟨98, false⟩⟩,
  ⟨some 100, .p (.un .not (.t 99)), some ⟨98, false⟩⟩,
  po_ 101 (.pick (.t 98) (.c (.bool true)) (.t 100))] [0, 4, 5, 8, 101])
 (.cond (.t 101)
 (.seq (.ops [po_ 6 (.mov (.c (.bool false)))] [6])
  (.ret))
 (.skip)))
 JE
def JG : Af := .seq (.ops [mv_ 84 0,
  po_ 85 (.load true 20 (.t 4)),
  po_ 86 (.load true 20 (.t 4)),
  so_ 87 (.call 13 [.t 84, .t 85, .t 86]),
  mv_ 83 87,
  po_ 88 (.ext 0 (.t 83)),
  po_ 89 (.ext 1 (.t 83)),
  mv_ 16 88,
  mv_ 17 89] [0, 4, 5, 8, 14, 15, 16])
 Jw
def JD : Af := .seq (.ops [mv_ 76 0,
  po_ 77 (.load true 20 (.t 4)),
  po_ 78 (.load true 20 (.t 5)),
  ⟨some 79, .s (.bslice 20 2 (.arr 20 1 [.val (.int .u8 ((0 : Nat) : Int)), .val (.int .u8 ((0 : Nat) : Int)), .val (.int .u8 ((0 : Nat) : Int)), .val (.int .u8 ((0 : Nat) : Int)), .val (.int .u8 ((0 : Nat) : Int)), .val (.int .u8 ((0 : Nat) : Int)), .val (.int .u8 ((0 : Nat) : Int)), .val (.int .u8 ((0 : Nat) : Int)), .val (.int .u8 ((0 : Nat) : Int)), .val (.int .u8 ((0 : Nat) : Int)), .val (.int .u8 ((0 : Nat) : Int)), .val (.int .u8 ((0 : Nat) : Int)), .val (.int .u8 ((0 : Nat) : Int)), .val (.int .u8 ((0 : Nat) : Int)), .val (.int .u8 ((0 : Nat) : Int)), .val (.int .u8 ((0 : Nat) : Int)), .val (.int .u8 ((0 : Nat) : Int)), .val (.int .u8 ((0 : Nat) : Int)), .val (.int .u8 ((0 : Nat) : Int)), .val (.int .u8 ((0 : Nat) : Int))]) [⟨0, .t 77⟩, ⟨1, .t 78⟩]), none⟩,
  so_ 80 (.call 7 [.t 76, .t 79, .c (.slice none 0 0)]),
  mv_ 75 80,
  po_ 81 (.ext 0 (.t 75)),
  po_ 82 (.ext 1 (.t 75)),
  mv_ 14 81,
  mv_ 15 82] [0, 4, 5, 8, 14, 15])
 JG
def Jo : Af := .seq (.seq (.ops [mv_ 64 9,
  so_ 65 (.call 12 [.t 64]),
  po_ 66 (.bin 36 .neq (.t 65) (ci_ 0))] [0, 4, 5, 8, 9, 66])
 (.cond (.t 66)
 KG
 (.skip)))
 JD
def Jr : Af := .seq (.seq (.ops [mv_ 55 13,
  po_ 56 (.un .not (.t 55)),
  mv_ 57 56,
  ⟨some 58, .p (.mov (.t 9)), some ⟨57, false⟩⟩,
  ⟨some 59, .s (.call 12 [.t 58]), some ⟨57, false⟩⟩,
  ⟨some 60, .p (.mov (.t 11)), some ⟨57, false⟩⟩,
  ⟨some 61, .s (.call 12 [.t 60]), some ⟨57, false⟩⟩,
  ⟨some 62, .p (.bin 36 .neq (.t 59) (.t 61)), some ⟨57, false⟩⟩,
  po_ 63 (.pick (.t 57) (.c (.bool true)) (.t 62))] [0, 4, 5, 8, 9, 63])
 (.cond (.t 63)
 (.seq (.ops [po_ 6 (.mov (.c (.bool false)))] [6])
  (.ret))
 (.skip)))
 Jo
def JC : Af := .seq (.ops [mv_ 52 8,
  mv_ 53 12,
  so_ 54 (.call 11 [.t 52, .t 53]),
  mv_ 13 54] [0, 4, 5, 8, 9, 11, 13])
 Jr
def JF : Af := .seq (.ops [mv_ 50 10,
  so_ 51 (.call 9 [.t 50]),
  mv_ 12 51] [0, 4, 5, 8, 9, 11, 12])
 JC
def JU : Af := .seq (.ops [mv_ 44 0,
  po_ 45 (.load true 20 (.t 5)),
  po_ 46 (.load true 20 (.t 4)),
  so_ 47 (.call 15 [.t 44, .t 45, .t 46]),
  mv_ 43 47,
  po_ 48 (.ext 0 (.t 43)),
  po_ 49 (.ext 1 (.t 43)),
  mv_ 10 48,
  mv_ 11 49] [0, 4, 5, 8, 9, 10, 11])
 JF
def JV : Af := .seq (.ops [mv_ 37 0,
  po_ 38 (.load true 20 (.t 4)),
  po_ 39 (.load true 20 (.t 5)),
  so_ 40 (.call 15 [.t 37, .t 38, .t 39]),
  mv_ 36 40,
  po_ 41 (.ext 0 (.t 36)),
  po_ 42 (.ext 1 (.t 36)),
  mv_ 8 41,
  mv_ 9 42] [0, 4, 5, 8, 9])
 JU
def JP : Af := .seq (.seq (.ops [mv_ 34 7,
  po_ 35 (.un .not (.t 34))] [0, 4, 5, 35])
 (.cond (.t 35)
 (.seq (.ops [po_ 6 (.mov (.c (.bool true)))] [6])
  (.ret))
 (.skip)))
 JV
def Jv : Af := .seq (.ops [mv_ 32 0,
  so_ 33 (.call 6 [.t 32]),
  mv_ 7 33] [0, 4, 5, 7])
 JP
def OU : Af := .seq (.ops [so_ 4 (.box (.t 1)),
  so_ 5 (.box (.t 2)),
  po_ 6 (.mov (.c (.bool false)))] [0, 4, 5])
 Jv
def O3 : List VR := [.tmp 6]
theorem Yt : Tryd.f5.body.bind (trC Tryd.prog Tryd.f5.ntmps) = some (er OU) := by kernel_rfl
theorem Yj : trR Tryd.prog Tryd.f5.results.toList = some O3 := by kernel_rfl
def Rw := Ac KG.eq_1
def Ru := Ac KA.eq_1
def I8 := Ac KH.eq_1
def RH := Ac KE.eq_1
def IU := Ac FB.eq_1
def RN := Ac KI.eq_1
def RV := Ac KQ.eq_1
def Rt := Ac FO.eq_1
def I5 := Ac KO.eq_1
def Qb := Ac JK.eq_1
def PZ := Ac JZ.eq_1
def PK := Ac J4.eq_1
def PI := Ac J8.eq_1
def P8 := Ac JM.eq_1
def Qg := Ac JI.eq_1
def Pz := Ac JR.eq_1
def PM := Ac JS.eq_1
def Hy := Ac JA.eq_1
def Ql := Ac JH.eq_1
def PD := Ac JW.eq_1
def Qa := Ac JE.eq_1
def Qm := Ac Jw.eq_1
def PU := Ac JG.eq_1
def Qk := Ac JD.eq_1
def Ig := Ac Jo.eq_1
def Ic := Ac Jr.eq_1
def Ip := Ac JC.eq_1
def H6 := Ac JF.eq_1
def Il := Ac JU.eq_1
def P6 := Ac JV.eq_1
def Ir := Ac JP.eq_1
def Py := Ac Jv.eq_1
def Vz := Ac OU.eq_1
theorem CZ {K : TV → Prop} {e : Env} {H : List Ob} : res O3 e H K = res [.tmp 6] e H K := Aa rfl
def Xj := ET 243 Tryd.func5 Yt Yj rfl

end Go.Proofs.YtingoaihnlhiaaaDoor


namespace Go.Proofs.YtingoaihnlhiaaaDoor
open Go.RowKit
variable [Bc]
set_option linter.unusedSectionVars false
set_option linter.unusedVariables false
set_option linter.unusedSimpArgs false

/-- -1, 0, 1. -/
def Anv (a b : Int) : Int := if a < b then -1 else if b < a then 1 else 0
def orI (x y : Int) : Int := if x = 0 then y else x
theorem A2M (a : Int) : Gh Tryd.prog 100 [i64 a] (fun r => r = tb false) := by
 refine Aq.toPureV (VU (by simp) ?_)
 simp -dsimp (disch := first | assumption | omega) only [↓Ah, Ae, Ag, Ai, eq_self, forall_const, Nat.reduceLT, Nat.reduceEqDiff, Nat.reduceSub, Nat.reduceMul, Nat.reduceMod, Nat.reduceDiv, Nat.reducePow, UInt8.reduceToNat, Int.reduceEq, Int.reduceLT, Int.reduceLE, ↓reduceIte, Nat.reduceAdd, Int.reduceToNat, reduceCtorEq, Nat.reduceLeDiff, ↓XR]
theorem A3d (a b : Int) : Gh Tryd.prog 99 [i64 a, i64 b] (fun r => r = i64 (Anv a b)) := by
 refine Aq.toPureV (Uh (by simp) ?_)
 simp -dsimp (disch := first | assumption | omega) only [↓Ah, Ae, Ag, Ai, eq_self, forall_const, Nat.reduceLT, Nat.reduceEqDiff, Nat.reduceSub, Nat.reduceMul, Nat.reduceMod, Nat.reduceDiv, Nat.reducePow, UInt8.reduceToNat, Int.reduceEq, Int.reduceLT, Int.reduceLE, ↓reduceIte, Nat.reduceAdd, Int.reduceToNat, reduceCtorEq, Nat.reduceLeDiff, ↓Df]
 refine (A2M a).calls rfl ?_
 rintro _ rfl
 simp -dsimp (disch := first | assumption | omega) only [↓Ah, Ae, Ag, Ai, eq_self, forall_const, Nat.reduceLT, Nat.reduceEqDiff, Nat.reduceSub, Nat.reduceMul, Nat.reduceMod, Nat.reduceDiv, Nat.reducePow, UInt8.reduceToNat, Int.reduceEq, Int.reduceLT, Int.reduceLE, ↓reduceIte, Nat.reduceAdd, Int.reduceToNat, reduceCtorEq, Nat.reduceLeDiff, ↓Df]
 refine (A2M b).calls rfl ?_
 rintro _ rfl
 unfold Anv
 by_cases h : a < b
 ·rw [if_pos h]
  simp -dsimp (disch := first | assumption | omega) only [↓Ah, Ae, Ag, Ai, eq_self, forall_const, Nat.reduceLT, Nat.reduceEqDiff, Nat.reduceSub, Nat.reduceMul, Nat.reduceMod, Nat.reduceDiv, Nat.reducePow, UInt8.reduceToNat, Int.reduceEq, Int.reduceLT, Int.reduceLE, ↓reduceIte, Nat.reduceAdd, Int.reduceToNat, reduceCtorEq, Nat.reduceLeDiff, ↓Df]
 ·rw [if_neg h]
  by_cases h2 : b < a
  ·rw [if_pos h2]
   simp -dsimp (disch := first | assumption | omega) only [↓Ah, Ae, Ag, Ai, eq_self, forall_const, Nat.reduceLT, Nat.reduceEqDiff, Nat.reduceSub, Nat.reduceMul, Nat.reduceMod, Nat.reduceDiv, Nat.reducePow, UInt8.reduceToNat, Int.reduceEq, Int.reduceLT, Int.reduceLE, ↓reduceIte, Nat.reduceAdd, Int.reduceToNat, reduceCtorEq, Nat.reduceLeDiff, ↓Df]
   rfl
  ·rw [if_neg h2]
   simp -dsimp (disch := first | assumption | omega) only [↓Ah, Ae, Ag, Ai, eq_self, forall_const, Nat.reduceLT, Nat.reduceEqDiff, Nat.reduceSub, Nat.reduceMul, Nat.reduceMod, Nat.reduceDiv, Nat.reducePow, UInt8.reduceToNat, Int.reduceEq, Int.reduceLT, Int.reduceLE, ↓reduceIte, Nat.reduceAdd, Int.reduceToNat, reduceCtorEq, Nat.reduceLeDiff, ↓Df]
   rfl
theorem orV (x y : Int) : Gh Tryd.prog 98 [.sl 1 [i64 x, i64 y]] (fun r => r = i64 (orI x y)) := by
 refine Aq.toPureV (Aa0 (by simp) ?_)
 simp -dsimp (disch := first | assumption | omega) only [↓Ah, Ae, Ag, Ai, eq_self, forall_const, Nat.reduceLT, Nat.reduceEqDiff, Nat.reduceSub, Nat.reduceMul, Nat.reduceMod, Nat.reduceDiv, Nat.reducePow, UInt8.reduceToNat, Int.reduceEq, Int.reduceLT, Int.reduceLE, ↓reduceIte, Nat.reduceAdd, Int.reduceToNat, reduceCtorEq, Nat.reduceLeDiff, ↓GY]
 refine BN (fun q e H => ∃ i : Nat, q = 2 - i ∧ i ≤ 2 ∧ (1 ≤ i → x = 0) ∧ (2 ≤ i → y = 0) ∧ e = [(3, i64 ((0 : Nat) : Int)), (6, .sl 1 [i64 x, i64 y]), (7, i64 ((2 : Nat) : Int)), (8, i64 ((i : Nat) : Int))] ∧ H = []) 2 ?_ ?_
 ·exact ⟨0, rfl, by omega, by omega, by omega, rfl, rfl⟩
 ·rintro q e H ⟨i, rfl, hi, h1, h2, rfl, rfl⟩
  rcases (show i = 0 ∨ i = 1 ∨ i = 2 by omega) with rfl | rfl | rfl
  ·by_cases hx : x = 0
   ·simp -dsimp (disch := first | assumption | omega) only [↓Ah, Ae, Ag, Ai, eq_self, forall_const, Nat.reduceLT, Nat.reduceEqDiff, Nat.reduceSub, Nat.reduceMul, Nat.reduceMod, Nat.reduceDiv, Nat.reducePow, UInt8.reduceToNat, Int.reduceEq, Int.reduceLT, Int.reduceLE, ↓reduceIte, Nat.reduceAdd, Int.reduceToNat, reduceCtorEq, Nat.reduceLeDiff, ↓GY]
    exact AY 1 (by omega) (by simp) ⟨1, rfl, by omega, fun _ => hx, by omega, by simp [forget, get], rfl⟩
   ·simp -dsimp (disch := first | assumption | omega) only [↓Ah, Ae, Ag, Ai, eq_self, forall_const, Nat.reduceLT, Nat.reduceEqDiff, Nat.reduceSub, Nat.reduceMul, Nat.reduceMod, Nat.reduceDiv, Nat.reducePow, UInt8.reduceToNat, Int.reduceEq, Int.reduceLT, Int.reduceLE, ↓reduceIte, Nat.reduceAdd, Int.reduceToNat, reduceCtorEq, Nat.reduceLeDiff, ↓GY]
    unfold orI; rw [if_neg hx]
  ·by_cases hy : y = 0
   ·simp -dsimp (disch := first | assumption | omega) only [↓Ah, Ae, Ag, Ai, eq_self, forall_const, Nat.reduceLT, Nat.reduceEqDiff, Nat.reduceSub, Nat.reduceMul, Nat.reduceMod, Nat.reduceDiv, Nat.reducePow, UInt8.reduceToNat, Int.reduceEq, Int.reduceLT, Int.reduceLE, ↓reduceIte, Nat.reduceAdd, Int.reduceToNat, reduceCtorEq, Nat.reduceLeDiff, ↓GY]
    exact AY 0 (by omega) (by simp) ⟨2, rfl, by omega, fun _ => h1 (by omega), fun _ => hy, by simp [forget, get], rfl⟩
   ·simp -dsimp (disch := first | assumption | omega) only [↓Ah, Ae, Ag, Ai, eq_self, forall_const, Nat.reduceLT, Nat.reduceEqDiff, Nat.reduceSub, Nat.reduceMul, Nat.reduceMod, Nat.reduceDiv, Nat.reducePow, UInt8.reduceToNat, Int.reduceEq, Int.reduceLT, Int.reduceLE, ↓reduceIte, Nat.reduceAdd, Int.reduceToNat, reduceCtorEq, Nat.reduceLeDiff, ↓GY]
    unfold orI; rw [if_pos (h1 (by omega))]
  ·simp -dsimp (disch := first | assumption | omega) only [↓Ah, Ae, Ag, Ai, eq_self, forall_const, Nat.reduceLT, Nat.reduceEqDiff, Nat.reduceSub, Nat.reduceMul, Nat.reduceMod, Nat.reduceDiv, Nat.reducePow, UInt8.reduceToNat, Int.reduceEq, Int.reduceLT, Int.reduceLE, ↓reduceIte, Nat.reduceAdd, Int.reduceToNat, reduceCtorEq, Nat.reduceLeDiff, ↓GY]
   unfold orI; rw [if_pos (h1 (by omega)), h2 (by omega)]; rfl
/-- Jn a stand ahead of b? -/
def Wh (a b : Nd) : Bool := decide (orI (Anv b.tm a.tm) (Lib.compareBytes b.id a.id) < 0)
/-- A queue's row: n nodes. -/
def ZB (H : List Ob) (r v : Nat) (n : Nat) (f : Nat → Nd) : Prop := ∃ N cs, H[r]? = some (.obj v (.arr N 22 cs)) ∧ (∀ i, i < n → cs[i]? = some (ndT (f i))) ∧ n ≤ 100000 ∧ ∀ i, i < n → (f i).id.length = 20
theorem lenV {H : List Ob} {r v n cp : Nat} {K : TV → List Ob → Prop} (hn : n ≤ 100000) (hK : K (i64 ((n : Nat) : Int)) H) : Aq Tryd.prog 23 [.os 22 r v [] 0 n cp] H K := by
 refine Wl (by simp) ?_
 simp -dsimp (disch := first | assumption | omega | (simp only [Ad]; done) | (simp only [Ad]; omega)) only [↓Ah, Ae, Ag, Ai, eq_self, forall_const, Nat.reduceLT, Nat.reduceEqDiff, Nat.reduceSub, Nat.reduceMul, Nat.reduceMod, Nat.reduceDiv, Nat.reducePow, UInt8.reduceToNat, Int.reduceEq, Int.reduceLT, Int.reduceLE, ↓reduceIte, Nat.reduceAdd, Int.reduceToNat, reduceCtorEq, Nat.reduceLeDiff, ↓XZ]
 exact hK
theorem AdF {z a b : TV} : ((List.replicate 2 z).set 0 a).set 1 b = [a, b] := by simp [List.replicate_succ]
theorem Aaz {N j : Nat} {cs : List TV} {y : List UInt8} {p t : TV} (hg : cs[j]? = some (.agg [.arr 20 1 (y.map by8), p, t])) (h20 : y.length = 20) : Ea [(j, j * 22), (0, 0)] 1 0 20 (.arr N 22 cs) = some (y.map by8) := by
 have h2 : (y.map by8).take 20 = y.map by8 := List.take_of_length_le (by simp [h20])
 simp [Ea, MG, hg, h20, h2, AC, BF]
theorem Agb {H : List Ob} {r v n cp : Nat} {f : Nat → Nd} (h : ZB H r v n f) {i j : Nat} (hi : i < n) (hj : j < n) {K : TV → List Ob → Prop} (hK : ∀ T, K (tb (Wh (f i) (f j))) (H ++ T)) : Aq Tryd.prog 94 [.os 22 r v [] 0 n cp, i64 ((i : Nat) : Int), i64 ((j : Nat) : Int)] H K := by
 obtain ⟨N, cs, hr, hcs, hn, h20⟩ := h
 have hrl := Ap hr
 have ci := hcs i hi
 have cj := hcs j hj
 rw [Bf] at ci cj
 refine U9 (by simp) ?_
 have hb : ∀ l : List UInt8, l.length = 20 → (l.map by8).take 20 = l.map by8 := fun l h => List.take_of_length_le (by simp [h])
 have h1 := hb _ (h20 i hi)
 have h2 := hb _ (h20 j hj)
 simp -dsimp (disch := first | assumption | omega | (simp only [Ad]; done) | (simp only [Ad]; omega)) only [↓Ah, Ae, Ag, Ai, eq_self, forall_const, Nat.reduceLT, Nat.reduceEqDiff, Nat.reduceSub, Nat.reduceMul, Nat.reduceMod, Nat.reduceDiv, Nat.reducePow, UInt8.reduceToNat, Int.reduceEq, Int.reduceLT, Int.reduceLE, ↓reduceIte, Nat.reduceAdd, Int.reduceToNat, reduceCtorEq, Nat.reduceLeDiff, ↓ES, hr, ci, cj]
 refine ⟨i64 (Anv (f j).tm (f i).tm), (A3d _ _).calls rfl fun x hx => ⟨hx, rfl⟩, ?_⟩
 simp -dsimp (disch := first | assumption | omega | (simp only [Ad]; done) | (simp only [Ad]; omega)) only [↓Ah, Ae, Ag, Ai, eq_self, forall_const, Nat.reduceLT, Nat.reduceEqDiff, Nat.reduceSub, Nat.reduceMul, Nat.reduceMod, Nat.reduceDiv, Nat.reducePow, UInt8.reduceToNat, Int.reduceEq, Int.reduceLT, Int.reduceLE, ↓reduceIte, Nat.reduceAdd, Int.reduceToNat, reduceCtorEq, Nat.reduceLeDiff, ↓ES, hr, ci, cj]
 refine (AjU (f j).id (f i).id).lends (args' := [slB (f j).id, slB (f i).id]) ?_ fun x hx => ⟨?_, ?_⟩
 ·simp -dsimp (disch := first | assumption | omega | (simp only [Ad]; done) | (simp only [Ad]; omega)) only [↓Ah, Ae, Ag, Ai, eq_self, forall_const, Nat.reduceLT, Nat.reduceEqDiff, Nat.reduceSub, Nat.reduceMul, Nat.reduceMod, Nat.reduceDiv, Nat.reducePow, UInt8.reduceToNat, Int.reduceEq, Int.reduceLT, Int.reduceLE, ↓reduceIte, Nat.reduceAdd, Int.reduceToNat, reduceCtorEq, Nat.reduceLeDiff, hr, Aaz ci (h20 i hi), Aaz cj (h20 j hj)]
 ·subst hx; rfl
 ·subst hx
  simp -dsimp (disch := first | assumption | omega | (simp only [Ad]; done) | (simp only [Ad]; omega)) only [↓Ah, Ae, Ag, Ai, eq_self, forall_const, Nat.reduceLT, Nat.reduceEqDiff, Nat.reduceSub, Nat.reduceMul, Nat.reduceMod, Nat.reduceDiv, Nat.reducePow, UInt8.reduceToNat, Int.reduceEq, Int.reduceLT, Int.reduceLE, ↓reduceIte, Nat.reduceAdd, Int.reduceToNat, reduceCtorEq, Nat.reduceLeDiff, ↓ES, hr, ci, cj]
  refine (orV (Anv (f j).tm (f i).tm) (Lib.compareBytes (f j).id (f i).id)).lends (args' := [.sl 1 [i64 (Anv (f j).tm (f i).tm), i64 (Lib.compareBytes (f j).id (f i).id)]]) ?_ fun x hx => ⟨?_, ?_⟩
  ·simp -dsimp (disch := first | assumption | omega | (simp only [Ad]; done) | (simp only [Ad]; omega)) only [↓Ah, Ae, Ag, Ai, eq_self, forall_const, Nat.reduceLT, Nat.reduceEqDiff, Nat.reduceSub, Nat.reduceMul, Nat.reduceMod, Nat.reduceDiv, Nat.reducePow, UInt8.reduceToNat, Int.reduceEq, Int.reduceLT, Int.reduceLE, ↓reduceIte, Nat.reduceAdd, Int.reduceToNat, reduceCtorEq, Nat.reduceLeDiff, AdF]
  ·subst hx; rfl
  ·subst hx
   simp -dsimp (disch := first | assumption | omega | (simp only [Ad]; done) | (simp only [Ad]; omega)) only [↓Ah, Ae, Ag, Ai, eq_self, forall_const, Nat.reduceLT, Nat.reduceEqDiff, Nat.reduceSub, Nat.reduceMul, Nat.reduceMod, Nat.reduceDiv, Nat.reducePow, UInt8.reduceToNat, Int.reduceEq, Int.reduceLT, Int.reduceLE, ↓reduceIte, Nat.reduceAdd, Int.reduceToNat, reduceCtorEq, Nat.reduceLeDiff, ↓ES]
   exact hK _
theorem AgQ {H : List Ob} {r v n cp : Nat} {f : Nat → Nd} (h : ZB H r v n f) {i j : Nat} (hi : i < n) (hj : j < n) {K : TV → List Ob → Prop} (hK : ∀ o, ZB (H.set r o) r v n (fun k => if k = i then f j else if k = j then f i else f k) → K (.tup []) (H.set r o)) : Aq Tryd.prog 97 [.os 22 r v [] 0 n cp, i64 ((i : Nat) : Int), i64 ((j : Nat) : Int)] H K := by
 obtain ⟨N, cs, hr, hcs, hn, h20⟩ := h
 have hrl := Ap hr
 have ci := hcs i hi
 have cj := hcs j hj
 rw [Bf] at ci cj
 refine VK (by simp) ?_
 have cj' : (cs.set i (.agg [.arr 20 1 ((f j).id.map by8), .sl 20 ((f j).ps.map idT), i64 (f j).tm]))[j]? = some (.agg [.arr 20 1 ((f j).id.map by8), .sl 20 ((f j).ps.map idT), i64 (f j).tm]) := by
  by_cases e : i = j
  ·subst e; exact List.getElem?_set_self (Ap ci)
  ·rw [List.getElem?_set_ne e]; exact cj
 simp -dsimp (disch := first | assumption | omega | (simp only [Ad]; done) | (simp only [Ad]; omega)) only [↓Ah, Ae, Ag, Ai, eq_self, forall_const, Nat.reduceLT, Nat.reduceEqDiff, Nat.reduceSub, Nat.reduceMul, Nat.reduceMod, Nat.reduceDiv, Nat.reducePow, UInt8.reduceToNat, Int.reduceEq, Int.reduceLT, Int.reduceLE, ↓reduceIte, Nat.reduceAdd, Int.reduceToNat, reduceCtorEq, Nat.reduceLeDiff, ↓Xy, hr, ci, cj, cj']
 rw [← Bf, ← Bf]
 have hl1 := Ap ci
 have hl2 := Ap cj
 refine hK _ ⟨N, _, List.getElem?_set_self hrl, fun k hk => ?_, hn, fun k hk => ?_⟩
 ·by_cases e2 : j = k
  ·subst e2
   rw [List.getElem?_set_self (by simpa using hl2)]
   by_cases e1 : j = i
   ·subst e1; simp
   ·simp [e1]
  ·rw [List.getElem?_set_ne e2]
   by_cases e1 : i = k
   ·subst e1; rw [List.getElem?_set_self hl1]; simp
   ·rw [List.getElem?_set_ne e1, hcs k hk]; simp [Ne.symm e1, Ne.symm e2]
 ·by_cases e1 : k = i
  ·simp only [e1, if_true]; exact h20 j hj
  ·by_cases e2 : k = j
   ·simp only [e1, e2, if_false, if_true]; split <;> first | exact h20 _ hj | exact h20 _ hi
   ·simp only [e1, e2, if_false]; exact h20 k hk
/-- Of the old objects none but two is another one. -/
def Fq (q r : Nat) (H H' : List Ob) : Prop := H.length ≤ H'.length ∧ ∀ i, i < H.length → i ≠ q → i ≠ r → H'[i]? = H[i]?
theorem Fq.refl {q r : Nat} {H : List Ob} : Fq q r H H := ⟨Nat.le_refl _, fun _ _ _ _ => rfl⟩
theorem Fq.trans {q r : Nat} {H H' H2 : List Ob} (h : Fq q r H H') (k : Fq q r H' H2) : Fq q r H H2 := ⟨Nat.le_trans h.1 k.1, fun i h1 h2 h3 => (k.2 i (Nat.lt_of_lt_of_le h1 h.1) h2 h3).trans (h.2 i h1 h2 h3)⟩
theorem Fq.setr {q r : Nat} {H : List Ob} {o : Ob} : Fq q r H (H.set r o) := ⟨by simp, fun i _ _ h => List.getElem?_set_ne (Ne.symm h)⟩
theorem Fq.setq {q r : Nat} {H : List Ob} {o : Ob} : Fq q r H (H.set q o) := ⟨by simp, fun i _ h _ => List.getElem?_set_ne (Ne.symm h)⟩
theorem Fq.app {q r : Nat} {H T : List Ob} : Fq q r H (H ++ T) := ⟨by simp, fun i h _ _ => List.getElem?_append_left h⟩
/-- A queue: n nodes. -/
def Qu (H : List Ob) (q r n : Nat) (f : Nat → Nd) : Prop := ∃ v cp, H[q]? = some (.obj 0 (.os 22 r v [] 0 n cp)) ∧ ZB H r v n f ∧ n ≤ cp ∧ q ≠ r
theorem ZB.app {H T : List Ob} {r v n : Nat} {f : Nat → Nd} (h : ZB H r v n f) : ZB (H ++ T) r v n f := by
 obtain ⟨N, cs, h1, h2⟩ := h
 exact ⟨N, cs, by rw [List.getElem?_append_left (Ap h1)]; exact h1, h2⟩
theorem Qu.app {H T : List Ob} {q r n : Nat} {f : Nat → Nd} (h : Qu H q r n f) : Qu (H ++ T) q r n f := by
 obtain ⟨v, cp, h1, h2, h3⟩ := h
 exact ⟨v, cp, by rw [List.getElem?_append_left (Ap h1)]; exact h1, h2.app, h3⟩
theorem Aog {H : List Ob} {q r n : Nat} {f : Nat → Nd} (h : Qu H q r n f) (hn : n < 100000) {x : Nd} (hx : x.id.length = 20) {K : TV → List Ob → Prop} (hK : ∀ H', Qu H' q r (n + 1) (fun k => if k = n then x else f k) → Fq q r H H' → K (.tup []) H') : Aq Tryd.prog 96 [.op q 0 [], .ifc 51 (ndT x)] H K := by
 obtain ⟨v, cp, hq, ⟨N, cs, hr, hcs, hn0, h20⟩, hcp, hne⟩ := h
 have hql := Ap hq
 have hrl := Ap hr
 refine UV (by simp) ?_
 rw [Bf]
 have hcl : n ≤ cs.length := by
  rcases Nat.eq_zero_or_pos n with h0 | h0
  ·omega
  ·have := Ap (hcs (n - 1) (by omega)); omega
 simp -dsimp (disch := first | assumption | omega | (simp only [Ad]; done) | (simp only [Ad]; omega)) only [↓Ah, Ae, Ag, Ai, eq_self, forall_const, Nat.reduceLT, Nat.reduceEqDiff, Nat.reduceSub, Nat.reduceMul, Nat.reduceMod, Nat.reduceDiv, Nat.reducePow, UInt8.reduceToNat, Int.reduceEq, Int.reduceLT, Int.reduceLE, ↓reduceIte, Nat.reduceAdd, Int.reduceToNat, reduceCtorEq, Nat.reduceLeDiff, ↓WW, hq, hr, hne, PW, LP]
 rw [← Bf]
 have hne' : r ≠ q := Ne.symm hne
 have htl : (cs.take n).length = n := by simp [hcl]
 refine hK _ (Qu.app ⟨v + 1, n + 1, List.getElem?_set_self (by simpa using hql), ⟨n + 1, _, by rw [List.getElem?_set_ne hne, List.getElem?_set_self hrl], fun i hi => ?_, by omega, fun i hi => ?_⟩, Nat.le_refl _, hne⟩) ((Fq.setr.trans Fq.setq).trans Fq.app)
 ·by_cases e : i = n
  ·subst e
   rw [List.getElem?_append_right (by omega), htl]; simp
  ·rw [List.getElem?_append_left (by omega), List.getElem?_take, if_pos (by omega), hcs i (by omega)]; simp [e]
 ·by_cases e : i = n
  ·simp only [e, if_true]; exact hx
  ·simp only [e, if_false]; exact h20 i (by omega)
theorem AsF {H : List Ob} {q r n : Nat} {f : Nat → Nd} (h : Qu H q r (n + 1) f) {K : TV → List Ob → Prop} (hK : ∀ H', Qu H' q r n f → Fq q r H H' → K (.ifc 51 (ndT (f n))) H') : Aq Tryd.prog 95 [.op q 0 []] H K := by
 obtain ⟨v, cp, hq, ⟨N, cs, hr, hcs, hn0, h20⟩, hcp, hne⟩ := h
 have hql := Ap hq
 have hrl := Ap hr
 have hc := hcs n (by omega)
 rw [Bf] at hc
 refine WJ (by simp) ?_
 simp -dsimp (disch := first | assumption | omega | (simp only [Ad]; done) | (simp only [Ad]; omega)) only [↓Ah, Ae, Ag, Ai, eq_self, forall_const, Nat.reduceLT, Nat.reduceEqDiff, Nat.reduceSub, Nat.reduceMul, Nat.reduceMod, Nat.reduceDiv, Nat.reducePow, UInt8.reduceToNat, Int.reduceEq, Int.reduceLT, Int.reduceLE, ↓reduceIte, Nat.reduceAdd, Int.reduceToNat, reduceCtorEq, Nat.reduceLeDiff, ↓XJ, hq, hr, hc, hne]
 rw [← Bf]
 refine hK _ (Qu.app ⟨v, cp, List.getElem?_set_self hql, ⟨N, cs, by rw [List.getElem?_set_ne hne]; exact hr, fun i hi => hcs i (by omega), by omega, fun i hi => h20 i (by omega)⟩, by omega, hne⟩) (Fq.setq.trans Fq.app)
end Go.Proofs.YtingoaihnlhiaaaDoor


namespace Go.Proofs.YtingoaihnlhiaaaDoor
open Go.RowKit
variable [Bc]
set_option linter.unusedSectionVars false
set_option linter.unusedVariables false
set_option linter.unusedSimpArgs false
set_option autoImplicit false

theorem ZP {a b : Nd} : Wh a b = true ↔ b.tm < a.tm ∨ (b.tm = a.tm ∧ ltB b.id a.id) := by
 unfold Wh orI Anv
 rw [decide_eq_true_eq]
 by_cases h1 : b.tm < a.tm
 ·simp [h1]
 ·by_cases h2 : a.tm < b.tm
  ·have h3 : ¬ b.tm = a.tm := by omega
   simp [h1, h2, h3]
  ·have h3 : b.tm = a.tm := by omega
   simp [h1, h2, h3, Adl]
/-- a does not stand behind b. -/
def Ra (a b : Nd) : Prop := Wh b a = false
theorem Aec {a b : Nd} : Ra a b ↔ ¬ (a.tm < b.tm ∨ (a.tm = b.tm ∧ ltB a.id b.id)) := by
 unfold Ra
 rw [← ZP, Bool.not_eq_true]
theorem Ra.trans {a b c : Nd} (h : Ra a b) (k : Ra b c) : Ra a c := by
 rw [Aec] at h k ⊢
 rintro (h1 | ⟨h1, h2⟩)
 ·by_cases h3 : a.tm < b.tm
  ·exact h (.inl h3)
  ·exact k (.inl (by omega))
 ·by_cases h3 : a.tm < b.tm
  ·exact h (.inl h3)
  ·by_cases h4 : b.tm < c.tm
   ·exact k (.inl h4)
   ·have e1 : a.tm = b.tm := by omega
    have e2 : b.tm = c.tm := by omega
    by_cases h5 : ltB a.id b.id
    ·exact h (.inr ⟨e1, h5⟩)
    ·by_cases h6 : ltB b.id c.id
     ·exact k (.inr ⟨e2, h6⟩)
     ·by_cases h7 : ltB b.id a.id
      ·exact h6 (J9 h7 h2)
      ·have := Vk h5 h7
       rw [this] at h2; exact h6 h2
theorem Ra.of_less {a b : Nd} (h : Wh a b = true) : Ra a b := by
 rw [Aec]
 rw [ZP] at h
 rintro (h1 | ⟨h1, h2⟩)
 ·rcases h with h | ⟨h, _⟩ <;> omega
 ·rcases h with h | ⟨h, h3⟩
  ·omega
  ·exact GR _ (J9 h2 h3)
theorem Ra.refl (a : Nd) : Ra a a := by
 rw [Aec]
 rintro (h | ⟨_, h⟩)
 ·omega
 ·exact GR _ h
/-- Of two with different ids one stands ahead. -/
theorem Ra.less {a b : Nd} (h : Ra a b) (hne : a.id ≠ b.id) : Wh a b = true := by
 rw [ZP]
 rw [Aec] at h
 by_cases h1 : b.tm < a.tm
 ·exact .inl h1
 ·by_cases h2 : a.tm < b.tm
  ·exact absurd (.inl h2) h
  ·refine .inr ⟨by omega, ?_⟩
   by_cases h3 : ltB b.id a.id
   ·exact h3
   ·by_cases h4 : ltB a.id b.id
    ·exact absurd (.inr ⟨by omega, h4⟩) h
    ·exact absurd (Vk h4 h3) hne

def sw {α : Type} (f : Nat → α) (i j : Nat) : Nat → α := fun k => if k = i then f j else if k = j then f i else f k
theorem AoK {α : Type} {f : Nat → α} {i j : Nat} : sw f i j i = f j := by simp [sw]
theorem Aob {α : Type} {f : Nat → α} {i j : Nat} : sw f i j j = f i := by
 unfold sw
 by_cases h : j = i
 ·subst h; simp
 ·simp [h]
theorem Ads {α : Type} {f : Nat → α} {i j k : Nat} (h1 : k ≠ i) (h2 : k ≠ j) : sw f i j k = f k := by simp [sw, h1, h2]
/-- The same things, in another order. -/
def Sh {α : Type} (n : Nat) (f g : Nat → α) : Prop := ∃ s t : Nat → Nat, (∀ k, k < n → s k < n ∧ t k < n ∧ s (t k) = k ∧ t (s k) = k) ∧ ∀ k, k < n → g k = f (s k)
theorem Sh.refl {α : Type} (n : Nat) (f : Nat → α) : Sh n f f := ⟨id, id, fun k h => ⟨h, h, rfl, rfl⟩, fun _ _ => rfl⟩
theorem Sh.trans {α : Type} {n : Nat} {f g h : Nat → α} (a : Sh n f g) (b : Sh n g h) : Sh n f h := by
 obtain ⟨s, t, h1, h2⟩ := a
 obtain ⟨s', t', k1, k2⟩ := b
 refine ⟨fun k => s (s' k), fun k => t' (t k), fun k hk => ⟨(h1 _ (k1 k hk).1).1, (k1 _ (h1 k hk).2.1).2.1, ?_, ?_⟩, fun k hk => by rw [k2 k hk, h2 _ (k1 k hk).1]⟩
 ·show s (s' (t' (t k))) = k
  rw [(k1 _ (h1 k hk).2.1).2.2.1, (h1 k hk).2.2.1]
 ·show t' (t (s (s' k))) = k
  rw [(h1 _ (k1 k hk).1).2.2.2, (k1 k hk).2.2.2]
theorem Sh.sw {α : Type} {n i j : Nat} (f : Nat → α) (hi : i < n) (hj : j < n) : Sh n f (sw f i j) := by
 refine ⟨fun k => if k = i then j else if k = j then i else k, fun k => if k = i then j else if k = j then i else k, fun k hk => ?_, fun k hk => ?_⟩
 ·have key : ∀ m, m < n → (if m = i then j else if m = j then i else m) < n := by intro m hm; split <;> first | exact hj | (split <;> first | exact hi | exact hm)
  have inv : (if (if k = i then j else if k = j then i else k) = i then j else if (if k = i then j else if k = j then i else k) = j then i else (if k = i then j else if k = j then i else k)) = k := by
   by_cases h1 : k = i
   ·by_cases h2 : j = i <;> simp [h1, h2]
   ·by_cases h2 : k = j
    ·simp [h1, h2]
    ·simp [h1, h2]
  exact ⟨key k hk, key k hk, inv, inv⟩
 ·unfold Go.Proofs.YtingoaihnlhiaaaDoor.sw
  by_cases h1 : k = i
  ·simp [h1]
  ·by_cases h2 : k = j
   ·subst h2; simp [h1]
   ·simp [h1, h2]
/-- What comes last stays: then the others are the same, too. -/
theorem Sh.cut {α : Type} {n : Nat} {f g : Nat → α} (h : Sh (n + 1) f g) (e : ∀ k, n ≤ k → g k = f k) : Sh n f g := by
 obtain ⟨s, t, h1, h2⟩ := h
 -- what went to the last place changes with what the last one's place got
 have hn := h1 n (by omega)
 refine ⟨fun k => if s k = n then s n else s k, fun k => if t k = n then t n else t k, fun k hk => ?_, fun k hk => ?_⟩
 ·have hk1 := h1 k (by omega)
  have inj : ∀ a b, a < n + 1 → b < n + 1 → s a = s b → a = b := fun a b ha hb e => by rw [← (h1 a ha).2.2.2, e, (h1 b hb).2.2.2]
  have injt : ∀ a b, a < n + 1 → b < n + 1 → t a = t b → a = b := fun a b ha hb e => by rw [← (h1 a ha).2.2.1, e, (h1 b hb).2.2.1]
  refine ⟨?_, ?_, ?_, ?_⟩
  ·by_cases c : s k = n
   ·simp only [c, if_true]
    have : s n ≠ n := fun c2 => by have := inj k n (by omega) (by omega) (by rw [c, c2]); omega
    omega
   ·simp only [c, if_false]; omega
  ·by_cases c : t k = n
   ·simp only [c, if_true]
    have : t n ≠ n := fun c2 => by have := injt k n (by omega) (by omega) (by rw [c, c2]); omega
    omega
   ·simp only [c, if_false]; omega
  ·show (if s (if t k = n then t n else t k) = n then s n else s (if t k = n then t n else t k)) = k
   by_cases c : t k = n
   ·rw [if_pos c, hn.2.2.1, if_pos rfl, ← c, hk1.2.2.1]
   ·rw [if_neg c, hk1.2.2.1, if_neg (by omega)]
  ·show (if t (if s k = n then s n else s k) = n then t n else t (if s k = n then s n else s k)) = k
   by_cases c : s k = n
   ·rw [if_pos c, hn.2.2.2, if_pos rfl, ← c, hk1.2.2.2]
   ·rw [if_neg c, hk1.2.2.2, if_neg (by omega)]
 ·show g k = f (if s k = n then s n else s k)
  by_cases c : s k = n
  ·rw [if_pos c, h2 k (by omega), c, ← e n (Nat.le_refl _), h2 n (by omega)]
  ·rw [if_neg c, h2 k (by omega)]
theorem Sh.mem {α : Type} {n : Nat} {f g : Nat → α} (h : Sh n f g) {x : α} : (∃ k, k < n ∧ g k = x) ↔ ∃ k, k < n ∧ f k = x := by
 obtain ⟨s, t, h1, h2⟩ := h
 constructor
 ·rintro ⟨k, hk, rfl⟩; exact ⟨s k, (h1 k hk).1, (h2 k hk).symm⟩
 ·rintro ⟨k, hk, rfl⟩; exact ⟨t k, (h1 k hk).2.1, by rw [h2 _ (h1 k hk).2.1, (h1 k hk).2.2.1]⟩
theorem Sh.inj {α β : Type} {n : Nat} {f g : Nat → α} (p : α → β) (h : Sh n f g) (hf : ∀ i j, i < n → j < n → p (f i) = p (f j) → i = j) : ∀ i j, i < n → j < n → p (g i) = p (g j) → i = j := by
 obtain ⟨s, t, h1, h2⟩ := h
 intro i j hi hj e
 rw [h2 i hi, h2 j hj] at e
 have := hf _ _ (h1 i hi).1 (h1 j hj).1 e
 rw [← (h1 i hi).2.2.2, this, (h1 j hj).2.2.2]

/-- A heap from lo on. -/
def Hp (lo n : Nat) (f : Nat → Nd) : Prop := ∀ j, 0 < j → j < n → lo ≤ (j - 1) / 2 → Ra (f ((j - 1) / 2)) (f j)
/-- .. but for what stands at i and its children. -/
def Dn (lo n : Nat) (f : Nat → Nd) (i : Nat) : Prop := (∀ j, 0 < j → j < n → lo ≤ (j - 1) / 2 → (j - 1) / 2 ≠ i → Ra (f ((j - 1) / 2)) (f j)) ∧ (0 < i → lo ≤ (i - 1) / 2 → ∀ c, 0 < c → c < n → (c - 1) / 2 = i → Ra (f ((i - 1) / 2)) (f c))
theorem Dn.start {lo n : Nat} {f : Nat → Nd} (h : Hp (lo + 1) n f) : Dn lo n f lo := by
 refine ⟨fun j h1 h2 h3 h4 => h j h1 h2 (by omega), fun h1 h2 c h3 h4 h5 => ?_⟩
 omega
theorem Dn.last {lo n : Nat} {f : Nat → Nd} {i : Nat} (h : Dn lo n f i) (hn : n ≤ 2 * i + 1) : Hp lo n f := fun j h1 h2 h3 => h.1 j h1 h2 h3 (by omega)
theorem Dn.done {lo n : Nat} {f : Nat → Nd} {i c : Nat} (h : Dn lo n f i) (hc : ∀ d, 0 < d → d < n → (d - 1) / 2 = i → Ra (f c) (f d)) (hr : Ra (f i) (f c)) : Hp lo n f := fun j h1 h2 h3 => by
 by_cases e : (j - 1) / 2 = i
 ·rw [e]; exact hr.trans (hc j h1 h2 e)
 ·exact h.1 j h1 h2 h3 e
theorem Dn.step {lo n : Nat} {f : Nat → Nd} {i c : Nat} (h : Dn lo n f i) (hlo : lo ≤ i) (hc0 : 0 < c) (hcn : c < n) (hci : (c - 1) / 2 = i) (hc : ∀ d, 0 < d → d < n → (d - 1) / 2 = i → Ra (f c) (f d)) (hl : Wh (f c) (f i) = true) : Dn lo n (sw f i c) c := by
 have hic : i < c := by omega
 refine ⟨fun j h1 h2 h3 h4 => ?_, fun h1 h2 d h3 h4 h5 => ?_⟩
 ·by_cases e : (j - 1) / 2 = i
  ·rw [e, AoK]
   by_cases e2 : j = c
   ·subst e2; rw [Aob]; exact Ra.of_less hl
   ·rw [Ads (by omega) e2]; exact hc j h1 h2 e
  ·rw [Ads e h4]
   by_cases e2 : j = i
   ·subst e2
    rw [AoK]
    exact h.2 h1 h3 c hc0 hcn hci
   ·by_cases e3 : j = c
    ·subst e3; exact absurd hci e
    ·rw [Ads e2 e3]; exact h.1 j h1 h2 h3 e
 ·rw [hci, AoK, Ads (by omega) (by omega)]
  have := h.1 d h3 h4 (by omega) (by omega)
  rwa [h5] at this
/-- A heap but for what stands at j. -/
def Up (n : Nat) (f : Nat → Nd) (j : Nat) : Prop := (∀ k, 0 < k → k < n → k ≠ j → Ra (f ((k - 1) / 2)) (f k)) ∧ (0 < j → ∀ c, 0 < c → c < n → (c - 1) / 2 = j → Ra (f ((j - 1) / 2)) (f c))
theorem Up.start {n : Nat} {f : Nat → Nd} (h : Hp 0 n f) (x : Nd) : Up (n + 1) (fun k => if k = n then x else f k) n := by
 refine ⟨fun k h1 h2 h3 => ?_, fun h1 c h2 h3 h4 => by omega⟩
 have e : (k - 1) / 2 ≠ n := by omega
 simp only [h3, e, if_false]
 exact h k h1 (by omega) (by omega)
theorem Up.top {n : Nat} {f : Nat → Nd} (h : Up n f 0) : Hp 0 n f := fun k h1 h2 _ => h.1 k h1 h2 (by omega)
theorem Up.done {n j : Nat} {f : Nat → Nd} (h : Up n f j) (hr : Ra (f ((j - 1) / 2)) (f j)) : Hp 0 n f := fun k h1 h2 _ => by
 by_cases e : k = j
 ·subst e; exact hr
 ·exact h.1 k h1 h2 e
theorem Up.step {n j : Nat} {f : Nat → Nd} (h : Up n f j) (hj : 0 < j) (hjn : j < n) (hl : Wh (f j) (f ((j - 1) / 2)) = true) : Up n (sw f ((j - 1) / 2) j) ((j - 1) / 2) := by
 generalize hi : (j - 1) / 2 = i at *
 have hij : i < j := by omega
 have hr := Ra.of_less hl
 refine ⟨fun k h1 h2 h3 => ?_, fun h0 c h1 h2 h3 => ?_⟩
 ·by_cases e : k = j
  ·subst e; rw [hi, AoK, Aob]; exact hr
  ·by_cases e2 : (k - 1) / 2 = i
   ·rw [e2, AoK, Ads h3 e]
    have := h.1 k h1 h2 e
    rw [e2] at this; exact hr.trans this
   ·by_cases e3 : (k - 1) / 2 = j
    ·rw [e3, Aob, Ads h3 e]
     have := h.2 hj k h1 h2 e3
     rwa [hi] at this
    ·rw [Ads e2 e3, Ads h3 e]; exact h.1 k h1 h2 e
 ·have hp : (i - 1) / 2 ≠ i := by omega
  have hp2 : (i - 1) / 2 ≠ j := by omega
  have hpi := h.1 i h0 (by omega) (by omega)
  rw [Ads hp hp2]
  by_cases e : c = j
  ·subst e; rw [Aob]; exact hpi
  ·rw [Ads (by omega) e]
   have := h.1 c h1 h2 e
   rw [h3] at this
   exact hpi.trans this
/-- The first one stands behind none. -/
theorem Hp.first {n : Nat} {f : Nat → Nd} (h : Hp 0 n f) : ∀ k, k < n → Ra (f 0) (f k) := by
 intro k
 induction k using Nat.strongRecOn with
 | ind k ih =>
  intro hk
  rcases Nat.eq_zero_or_pos k with rfl | h0
  ·exact Ra.refl _
  ·exact (ih ((k - 1) / 2) (by omega) (by omega)).trans (h k h0 hk (by omega))
/-- The first one and the last one change places. -/
theorem Hp.cut {n : Nat} {f : Nat → Nd} (h : Hp 0 (n + 1) f) : Hp 1 n (sw f 0 n) := fun j h1 h2 h3 => by
 rw [Ads (by omega) (by omega), Ads (by omega) (by omega)]
 exact h j h1 (by omega) (by omega)
end Go.Proofs.YtingoaihnlhiaaaDoor

