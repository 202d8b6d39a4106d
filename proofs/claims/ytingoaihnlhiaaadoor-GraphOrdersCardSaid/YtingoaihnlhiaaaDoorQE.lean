/- What the proof of GraphOrdersCard stands on (texts merged; names shortened by a program): part 5. -/
import Derived.Test.YtingoaihnlhiaaaDoorQD
import Derived.Test.YtingoaihnlhiaaaDoorProg
import Derived.KernelRfl
import Derived.Shelf.SlSortCmp.NoneTotal
import Derived.Ground.SlsfProg
import Derived.WalkKit
import Derived.Deep.RegionWith
import Derived.Lib.BytesEntry
import Derived.Lib.Bytealg
import Derived.Shelf.Bytes.SlIndexAt
namespace Go.Proofs.YtingoaihnlhiaaaDoor
variable [A7]
set_option linter.unusedSectionVars false
set_option linter.unusedVariables false
set_option linter.defProp false
set_option maxRecDepth 100000

def Qm : Af := .seq (.block 1 (.seq (.ops [po_ 30 (.idxA 22 (.t 26) (.t 28)),
  po_ 31 (.load true 22 (.t 30)),
  so_ 6 (.alloc (.agg [.arr 20 1 [.val (.int .u8 ((0 : Nat) : Int)), .val (.int .u8 ((0 : Nat) : Int)), .val (.int .u8 ((0 : Nat) : Int)), .val (.int .u8 ((0 : Nat) : Int)), .val (.int .u8 ((0 : Nat) : Int)), .val (.int .u8 ((0 : Nat) : Int)), .val (.int .u8 ((0 : Nat) : Int)), .val (.int .u8 ((0 : Nat) : Int)), .val (.int .u8 ((0 : Nat) : Int)), .val (.int .u8 ((0 : Nat) : Int)), .val (.int .u8 ((0 : Nat) : Int)), .val (.int .u8 ((0 : Nat) : Int)), .val (.int .u8 ((0 : Nat) : Int)), .val (.int .u8 ((0 : Nat) : Int)), .val (.int .u8 ((0 : Nat) : Int)), .val (.int .u8 ((0 : Nat) : Int)), .val (.int .u8 ((0 : Nat) : Int)), .val (.int .u8 ((0 : Nat) : Int)), .val (.int .u8 ((0 : Nat) : Int)), .val (.int .u8 ((0 : Nat) : Int))], .val (.slice none 0 0), .val (.int .i64 ((0 : Nat) : Int))])),
  ⟨none, .s (.store 22 (.t 6) (.t 31)), none⟩] [0, 4, 6, 26, 27, 28])
 (.draw 6 [mv_ 32 4,
  po_ 33 (.nilc (.t 32)),
  po_ 34 (.fieldA 0 0 (.t 33)),
  po_ 35 (.load false 1 (.t 34)),
  po_ 36 (.fieldA 0 0 (.t 6)),
  po_ 37 (.load true 20 (.t 36)),
  po_ 38 (.load true 22 (.t 6)),
  ⟨none, .s (.mupd (.arr 20) (.t 35) (.t 37) (.t 38)), none⟩] [0, 4, 26, 27, 28])))
 (.ops [po_ 39 (.bin 3 .add (.t 28) (ci_ 1)),
  mv_ 28 39] [0, 4, 26, 27, 28])
def Rf : Af := .seq (.cond (.t 29)
 (.skip)
 (.exit 0))
 Qm
def Qq : Af := .seq (.ops [po_ 29 (.bin 3 .lss (.t 28) (.t 27))] [0, 4, 26, 27, 28, 29])
 Rf
def QZ : Af := .block 0 (.loop [0, 4, 26, 27, 28] Qq)
def QI : Af := .seq (.seq (.draw 9 [mv_ 69 4,
  po_ 70 (.nilc (.t 69)),
  po_ 71 (.fieldA 0 0 (.t 70)),
  po_ 72 (.load false 1 (.t 71)),
  po_ 73 (.load true 20 (.t 11)),
  po_ 74 (.gen (.look (.arr 20) (.agg [.arr 20 1 [.val (.int .u8 ((0 : Nat) : Int)), .val (.int .u8 ((0 : Nat) : Int)), .val (.int .u8 ((0 : Nat) : Int)), .val (.int .u8 ((0 : Nat) : Int)), .val (.int .u8 ((0 : Nat) : Int)), .val (.int .u8 ((0 : Nat) : Int)), .val (.int .u8 ((0 : Nat) : Int)), .val (.int .u8 ((0 : Nat) : Int)), .val (.int .u8 ((0 : Nat) : Int)), .val (.int .u8 ((0 : Nat) : Int)), .val (.int .u8 ((0 : Nat) : Int)), .val (.int .u8 ((0 : Nat) : Int)), .val (.int .u8 ((0 : Nat) : Int)), .val (.int .u8 ((0 : Nat) : Int)), .val (.int .u8 ((0 : Nat) : Int)), .val (.int .u8 ((0 : Nat) : Int)), .val (.int .u8 ((0 : Nat) : Int)), .val (.int .u8 ((0 : Nat) : Int)), .val (.int .u8 ((0 : Nat) : Int)), .val (.int .u8 ((0 : Nat) : Int))], .val (.slice none 0 0), .val (.int .i64 ((0 : Nat) : Int))]) true) [.t 72, .t 73]),
  mv_ 68 74,
  po_ 75 (.ext 0 (.t 68)),
  po_ 76 (.ext 1 (.t 68)),
  so_ 12 (.alloc (.agg [.arr 20 1 [.val (.int .u8 ((0 : Nat) : Int)), .val (.int .u8 ((0 : Nat) : Int)), .val (.int .u8 ((0 : Nat) : Int)), .val (.int .u8 ((0 : Nat) : Int)), .val (.int .u8 ((0 : Nat) : Int)), .val (.int .u8 ((0 : Nat) : Int)), .val (.int .u8 ((0 : Nat) : Int)), .val (.int .u8 ((0 : Nat) : Int)), .val (.int .u8 ((0 : Nat) : Int)), .val (.int .u8 ((0 : Nat) : Int)), .val (.int .u8 ((0 : Nat) : Int)), .val (.int .u8 ((0 : Nat) : Int)), .val (.int .u8 ((0 : Nat) : Int)), .val (.int .u8 ((0 : Nat) : Int)), .val (.int .u8 ((0 : Nat) : Int)), .val (.int .u8 ((0 : Nat) : Int)), .val (.int .u8 ((0 : Nat) : Int)), .val (.int .u8 ((0 : Nat) : Int)), .val (.int .u8 ((0 : Nat) : Int)), .val (.int .u8 ((0 : Nat) : Int))], .val (.slice none 0 0), .val (.int .i64 ((0 : Nat) : Int))])),
  ⟨none, .s (.store 22 (.t 12) (.t 75)), none⟩,
  mv_ 13 76] [0, 4, 7, 11, 13, 55, 56, 57, 62, 63, 64])
 (.seq (.ops [mv_ 77 13,
  po_ 78 (.un .not (.t 77))] [0, 4, 7, 11, 55, 56, 57, 62, 63, 64, 78])
 (.cond (.t 78)
 (.seq (.ops [po_ 79 (.iface 36 (ci_ 80)),
   po_ 2 (.mov (.c (.pointer none))),
   mv_ 3 79] [2, 3])
  (.ret))
 (.skip))))
 (.draw 4 [mv_ 80 7,
  po_ 81 (.load true 20 (.t 11)),
  po_ 82 (.gen (.look (.arr 20) (.val (.int .i64 ((0 : Nat) : Int))) false) [.t 80, .t 81]),
  po_ 83 (.bin 3 .add (.t 82) (ci_ 1)),
  so_ 84 (.ment (.arr 20) (.val (.int .i64 ((0 : Nat) : Int))) (.t 80) (.t 81)),
  po_ 85 (.ext 1 (.t 84)),
  ⟨none, .s (.mest (.t 80) (.t 85) (.t 83)), none⟩] [0, 4, 7, 55, 56, 57, 62, 63, 64])
def RD : Af := .seq (.block 5 (.seq (.ops [po_ 66 (.idxA 20 (.t 62) (.t 64)),
  po_ 67 (.load true 20 (.t 66)),
  so_ 11 (.alloc (.arr 20 1 [.val (.int .u8 ((0 : Nat) : Int)), .val (.int .u8 ((0 : Nat) : Int)), .val (.int .u8 ((0 : Nat) : Int)), .val (.int .u8 ((0 : Nat) : Int)), .val (.int .u8 ((0 : Nat) : Int)), .val (.int .u8 ((0 : Nat) : Int)), .val (.int .u8 ((0 : Nat) : Int)), .val (.int .u8 ((0 : Nat) : Int)), .val (.int .u8 ((0 : Nat) : Int)), .val (.int .u8 ((0 : Nat) : Int)), .val (.int .u8 ((0 : Nat) : Int)), .val (.int .u8 ((0 : Nat) : Int)), .val (.int .u8 ((0 : Nat) : Int)), .val (.int .u8 ((0 : Nat) : Int)), .val (.int .u8 ((0 : Nat) : Int)), .val (.int .u8 ((0 : Nat) : Int)), .val (.int .u8 ((0 : Nat) : Int)), .val (.int .u8 ((0 : Nat) : Int)), .val (.int .u8 ((0 : Nat) : Int)), .val (.int .u8 ((0 : Nat) : Int))])),
  ⟨none, .s (.store 20 (.t 11) (.t 67)), none⟩] [0, 4, 7, 11, 55, 56, 57, 62, 63, 64])
 QI))
 (.ops [po_ 86 (.bin 3 .add (.t 64) (ci_ 1)),
  mv_ 64 86] [0, 4, 7, 55, 56, 57, 62, 63, 64])
def Rl : Af := .seq (.cond (.t 65)
 (.skip)
 (.exit 4))
 RD
def Rq : Af := .seq (.ops [po_ 65 (.bin 3 .lss (.t 64) (.t 63))] [0, 4, 7, 55, 56, 57, 62, 63, 64, 65])
 Rl
def Rn : Af := .block 4 (.loop [0, 4, 7, 55, 56, 57, 62, 63, 64] Rq)
def NW : Af := .seq (.ops [po_ 61 (.fieldA 1 20 (.t 9)),
  po_ 62 (.load false 1 (.t 61)),
  po_ 63 (.lenV (.t 62)),
  po_ 64 (.mov (ci_ 0))] [0, 4, 7, 55, 56, 57, 62, 63, 64])
 Rn
def O0 : Af := .ops [po_ 87 (.bin 3 .add (.t 57) (ci_ 1)),
  mv_ 57 87] [0, 4, 7, 55, 56, 57]
def O7 : Af := .seq (.block 3 (.seq (.ops [po_ 59 (.idxA 22 (.t 55) (.t 57)),
  po_ 60 (.load true 22 (.t 59)),
  so_ 9 (.alloc (.agg [.arr 20 1 [.val (.int .u8 ((0 : Nat) : Int)), .val (.int .u8 ((0 : Nat) : Int)), .val (.int .u8 ((0 : Nat) : Int)), .val (.int .u8 ((0 : Nat) : Int)), .val (.int .u8 ((0 : Nat) : Int)), .val (.int .u8 ((0 : Nat) : Int)), .val (.int .u8 ((0 : Nat) : Int)), .val (.int .u8 ((0 : Nat) : Int)), .val (.int .u8 ((0 : Nat) : Int)), .val (.int .u8 ((0 : Nat) : Int)), .val (.int .u8 ((0 : Nat) : Int)), .val (.int .u8 ((0 : Nat) : Int)), .val (.int .u8 ((0 : Nat) : Int)), .val (.int .u8 ((0 : Nat) : Int)), .val (.int .u8 ((0 : Nat) : Int)), .val (.int .u8 ((0 : Nat) : Int)), .val (.int .u8 ((0 : Nat) : Int)), .val (.int .u8 ((0 : Nat) : Int)), .val (.int .u8 ((0 : Nat) : Int)), .val (.int .u8 ((0 : Nat) : Int))], .val (.slice none 0 0), .val (.int .i64 ((0 : Nat) : Int))])),
  ⟨none, .s (.store 22 (.t 9) (.t 60)), none⟩] [0, 4, 7, 9, 55, 56, 57])
 NW))
 O0
def NR : Af := .seq (.cond (.t 58)
 (.skip)
 (.exit 2))
 O7
def OV : Af := .seq (.ops [po_ 58 (.bin 3 .lss (.t 57) (.t 56))] [0, 4, 7, 55, 56, 57, 58])
 NR
def OY : Af := .block 2 (.loop [0, 4, 7, 55, 56, 57] OV)
def OM : Af := .seq (.block 7 (.seq (.ops [po_ 92 (.idxA 22 (.t 88) (.t 90)),
  po_ 93 (.load true 22 (.t 92)),
  so_ 16 (.alloc (.agg [.arr 20 1 [.val (.int .u8 ((0 : Nat) : Int)), .val (.int .u8 ((0 : Nat) : Int)), .val (.int .u8 ((0 : Nat) : Int)), .val (.int .u8 ((0 : Nat) : Int)), .val (.int .u8 ((0 : Nat) : Int)), .val (.int .u8 ((0 : Nat) : Int)), .val (.int .u8 ((0 : Nat) : Int)), .val (.int .u8 ((0 : Nat) : Int)), .val (.int .u8 ((0 : Nat) : Int)), .val (.int .u8 ((0 : Nat) : Int)), .val (.int .u8 ((0 : Nat) : Int)), .val (.int .u8 ((0 : Nat) : Int)), .val (.int .u8 ((0 : Nat) : Int)), .val (.int .u8 ((0 : Nat) : Int)), .val (.int .u8 ((0 : Nat) : Int)), .val (.int .u8 ((0 : Nat) : Int)), .val (.int .u8 ((0 : Nat) : Int)), .val (.int .u8 ((0 : Nat) : Int)), .val (.int .u8 ((0 : Nat) : Int)), .val (.int .u8 ((0 : Nat) : Int))], .val (.slice none 0 0), .val (.int .i64 ((0 : Nat) : Int))])),
  ⟨none, .s (.store 22 (.t 16) (.t 93)), none⟩] [0, 4, 7, 14, 16, 88, 89, 90])
 (.seq (.ops [mv_ 94 7,
  po_ 95 (.fieldA 0 0 (.t 16)),
  po_ 96 (.load true 20 (.t 95)),
  po_ 97 (.gen (.look (.arr 20) (.val (.int .i64 ((0 : Nat) : Int))) false) [.t 94, .t 96]),
  po_ 98 (.bin 3 .eql (.t 97) (ci_ 0))] [0, 4, 7, 14, 16, 88, 89, 90, 98])
 (.cond (.t 98)
 (.ops [mv_ 99 14,
   po_ 100 (.fieldA 0 0 (.t 16)),
   po_ 101 (.load true 20 (.t 100)),
   ⟨some 102, .s (.bslice 20 1 (.arr 20 1 [.val (.int .u8 ((0 : Nat) : Int)), .val (.int .u8 ((0 : Nat) : Int)), .val (.int .u8 ((0 : Nat) : Int)), .val (.int .u8 ((0 : Nat) : Int)), .val (.int .u8 ((0 : Nat) : Int)), .val (.int .u8 ((0 : Nat) : Int)), .val (.int .u8 ((0 : Nat) : Int)), .val (.int .u8 ((0 : Nat) : Int)), .val (.int .u8 ((0 : Nat) : Int)), .val (.int .u8 ((0 : Nat) : Int)), .val (.int .u8 ((0 : Nat) : Int)), .val (.int .u8 ((0 : Nat) : Int)), .val (.int .u8 ((0 : Nat) : Int)), .val (.int .u8 ((0 : Nat) : Int)), .val (.int .u8 ((0 : Nat) : Int)), .val (.int .u8 ((0 : Nat) : Int)), .val (.int .u8 ((0 : Nat) : Int)), .val (.int .u8 ((0 : Nat) : Int)), .val (.int .u8 ((0 : Nat) : Int)), .val (.int .u8 ((0 : Nat) : Int))]) [⟨0, .t 101⟩]), none⟩,
   so_ 103 (.app 20 20 40 (.t 99) (.t 102)),
   mv_ 14 103] [0, 4, 7, 14, 88, 89, 90])
 (.skip)))))
 (.ops [po_ 104 (.bin 3 .add (.t 90) (ci_ 1)),
  mv_ 90 104] [0, 4, 7, 14, 88, 89, 90])
def Pj : Af := .seq (.cond (.t 91)
 (.skip)
 (.exit 6))
 OM
def NL : Af := .seq (.ops [po_ 91 (.bin 3 .lss (.t 90) (.t 89))] [0, 4, 7, 14, 88, 89, 90, 91])
 Pj
def OX : Af := .block 6 (.own 14 20 (.loop [0, 4, 7, 14, 88, 89, 90] NL))
def NE : Af := .seq (.draw 4 [mv_ 127 7,
  po_ 128 (.load true 20 (.t 20)),
  po_ 129 (.gen (.look (.arr 20) (.val (.int .i64 ((0 : Nat) : Int))) false) [.t 127, .t 128]),
  po_ 130 (.bin 3 .sub (.t 129) (ci_ 1)),
  so_ 131 (.ment (.arr 20) (.val (.int .i64 ((0 : Nat) : Int))) (.t 127) (.t 128)),
  po_ 132 (.ext 1 (.t 131)),
  ⟨none, .s (.mest (.t 127) (.t 132) (.t 130)), none⟩] [0, 4, 7, 14, 17, 20, 121, 122, 123])
 (.seq (.ops [mv_ 133 7,
  po_ 134 (.load true 20 (.t 20)),
  po_ 135 (.gen (.look (.arr 20) (.val (.int .i64 ((0 : Nat) : Int))) false) [.t 133, .t 134]),
  po_ 136 (.bin 3 .eql (.t 135) (ci_ 0))] [0, 4, 7, 14, 17, 20, 121, 122, 123, 136])
 (.cond (.t 136)
 (.ops [mv_ 137 14,
   po_ 138 (.load true 20 (.t 20)),
   ⟨some 139, .s (.bslice 20 1 (.arr 20 1 [.val (.int .u8 ((0 : Nat) : Int)), .val (.int .u8 ((0 : Nat) : Int)), .val (.int .u8 ((0 : Nat) : Int)), .val (.int .u8 ((0 : Nat) : Int)), .val (.int .u8 ((0 : Nat) : Int)), .val (.int .u8 ((0 : Nat) : Int)), .val (.int .u8 ((0 : Nat) : Int)), .val (.int .u8 ((0 : Nat) : Int)), .val (.int .u8 ((0 : Nat) : Int)), .val (.int .u8 ((0 : Nat) : Int)), .val (.int .u8 ((0 : Nat) : Int)), .val (.int .u8 ((0 : Nat) : Int)), .val (.int .u8 ((0 : Nat) : Int)), .val (.int .u8 ((0 : Nat) : Int)), .val (.int .u8 ((0 : Nat) : Int)), .val (.int .u8 ((0 : Nat) : Int)), .val (.int .u8 ((0 : Nat) : Int)), .val (.int .u8 ((0 : Nat) : Int)), .val (.int .u8 ((0 : Nat) : Int)), .val (.int .u8 ((0 : Nat) : Int))]) [⟨0, .t 138⟩]), none⟩,
   so_ 140 (.app 20 20 40 (.t 137) (.t 139)),
   mv_ 14 140] [0, 4, 7, 14, 17, 121, 122, 123])
 (.skip)))
def OC : Af := .seq (.block 11 (.seq (.ops [po_ 125 (.idxA 20 (.t 121) (.t 123)),
  po_ 126 (.load true 20 (.t 125)),
  so_ 20 (.alloc (.arr 20 1 [.val (.int .u8 ((0 : Nat) : Int)), .val (.int .u8 ((0 : Nat) : Int)), .val (.int .u8 ((0 : Nat) : Int)), .val (.int .u8 ((0 : Nat) : Int)), .val (.int .u8 ((0 : Nat) : Int)), .val (.int .u8 ((0 : Nat) : Int)), .val (.int .u8 ((0 : Nat) : Int)), .val (.int .u8 ((0 : Nat) : Int)), .val (.int .u8 ((0 : Nat) : Int)), .val (.int .u8 ((0 : Nat) : Int)), .val (.int .u8 ((0 : Nat) : Int)), .val (.int .u8 ((0 : Nat) : Int)), .val (.int .u8 ((0 : Nat) : Int)), .val (.int .u8 ((0 : Nat) : Int)), .val (.int .u8 ((0 : Nat) : Int)), .val (.int .u8 ((0 : Nat) : Int)), .val (.int .u8 ((0 : Nat) : Int)), .val (.int .u8 ((0 : Nat) : Int)), .val (.int .u8 ((0 : Nat) : Int)), .val (.int .u8 ((0 : Nat) : Int))])),
  ⟨none, .s (.store 20 (.t 20) (.t 126)), none⟩] [0, 4, 7, 14, 17, 20, 121, 122, 123])
 NE))
 (.ops [po_ 141 (.bin 3 .add (.t 123) (ci_ 1)),
  mv_ 123 141] [0, 4, 7, 14, 17, 121, 122, 123])
def O3 : Af := .seq (.cond (.t 124)
 (.skip)
 (.exit 10))
 OC
def OL : Af := .seq (.ops [po_ 124 (.bin 3 .lss (.t 123) (.t 122))] [0, 4, 7, 14, 17, 121, 122, 123, 124])
 O3
def Ou : Af := .block 10 (.own 14 20 (.loop [0, 4, 7, 14, 17, 121, 122, 123] OL))
def O9 : Af := .seq (.ops [po_ 120 (.fieldA 1 20 (.t 18)),
  po_ 121 (.load false 1 (.t 120)),
  po_ 122 (.lenV (.t 121)),
  po_ 123 (.mov (ci_ 0))] [0, 4, 7, 14, 17, 121, 122, 123])
 Ou
def OA : Af := .seq (.ops [mv_ 118 14,
  po_ 119 (.slV 20 (.t 118) (some (ci_ 1)) none),
  mv_ 14 119] [0, 4, 7, 14, 17, 18])
 O9
def ND : Af := .ops [mv_ 108 17,
  po_ 109 (.bin 3 .add (.t 108) (ci_ 1)),
  mv_ 17 109] [0, 4, 7, 14, 17]
def OJ : Af := .seq (.block 9 (.seq (.draw 4 [mv_ 110 4,
  po_ 111 (.nilc (.t 110)),
  po_ 112 (.fieldA 0 0 (.t 111)),
  po_ 113 (.load false 1 (.t 112)),
  mv_ 114 14,
  po_ 115 (.idxA 20 (.t 114) (ci_ 0)),
  po_ 116 (.load true 20 (.t 115)),
  po_ 117 (.gen (.look (.arr 20) (.agg [.arr 20 1 [.val (.int .u8 ((0 : Nat) : Int)), .val (.int .u8 ((0 : Nat) : Int)), .val (.int .u8 ((0 : Nat) : Int)), .val (.int .u8 ((0 : Nat) : Int)), .val (.int .u8 ((0 : Nat) : Int)), .val (.int .u8 ((0 : Nat) : Int)), .val (.int .u8 ((0 : Nat) : Int)), .val (.int .u8 ((0 : Nat) : Int)), .val (.int .u8 ((0 : Nat) : Int)), .val (.int .u8 ((0 : Nat) : Int)), .val (.int .u8 ((0 : Nat) : Int)), .val (.int .u8 ((0 : Nat) : Int)), .val (.int .u8 ((0 : Nat) : Int)), .val (.int .u8 ((0 : Nat) : Int)), .val (.int .u8 ((0 : Nat) : Int)), .val (.int .u8 ((0 : Nat) : Int)), .val (.int .u8 ((0 : Nat) : Int)), .val (.int .u8 ((0 : Nat) : Int)), .val (.int .u8 ((0 : Nat) : Int)), .val (.int .u8 ((0 : Nat) : Int))], .val (.slice none 0 0), .val (.int .i64 ((0 : Nat) : Int))]) false) [.t 113, .t 116]),
  so_ 18 (.alloc (.agg [.arr 20 1 [.val (.int .u8 ((0 : Nat) : Int)), .val (.int .u8 ((0 : Nat) : Int)), .val (.int .u8 ((0 : Nat) : Int)), .val (.int .u8 ((0 : Nat) : Int)), .val (.int .u8 ((0 : Nat) : Int)), .val (.int .u8 ((0 : Nat) : Int)), .val (.int .u8 ((0 : Nat) : Int)), .val (.int .u8 ((0 : Nat) : Int)), .val (.int .u8 ((0 : Nat) : Int)), .val (.int .u8 ((0 : Nat) : Int)), .val (.int .u8 ((0 : Nat) : Int)), .val (.int .u8 ((0 : Nat) : Int)), .val (.int .u8 ((0 : Nat) : Int)), .val (.int .u8 ((0 : Nat) : Int)), .val (.int .u8 ((0 : Nat) : Int)), .val (.int .u8 ((0 : Nat) : Int)), .val (.int .u8 ((0 : Nat) : Int)), .val (.int .u8 ((0 : Nat) : Int)), .val (.int .u8 ((0 : Nat) : Int)), .val (.int .u8 ((0 : Nat) : Int))], .val (.slice none 0 0), .val (.int .i64 ((0 : Nat) : Int))])),
  ⟨none, .s (.store 22 (.t 18) (.t 117)), none⟩] [0, 4, 7, 14, 17, 18])
 OA))
 ND
def NT : Af := .seq (.seq (.ops [mv_ 105 14,
  po_ 106 (.lenV (.t 105)),
  po_ 107 (.bin 3 .gtr (.t 106) (ci_ 0))] [0, 4, 7, 14, 17, 107])
 (.cond (.t 107)
 (.skip)
 (.exit 8)))
 OJ
def N7 : Af := .seq (.seq (.ops [mv_ 142 17,
  mv_ 143 0,
  po_ 144 (.lenV (.t 143)),
  po_ 145 (.bin 3 .lss (.t 142) (.t 144))] [4, 145])
 (.cond (.t 145)
 (.seq (.ops [po_ 146 (.iface 36 (ci_ 80)),
   po_ 2 (.mov (.c (.pointer none))),
   mv_ 3 146] [2, 3])
  (.ret))
 (.skip)))
 (.seq (.ops [mv_ 147 4,
  mv_ 2 147,
  po_ 3 (.mov (.c .nilIface))] [2, 3])
 (.ret))
def Ph : Af := .seq (.block 8 (.own 14 20 (.loop [0, 4, 7, 14, 17] NT)))
 N7
def OZ : Af := .seq (.ops [po_ 17 (.mov (ci_ 0))] [0, 4, 7, 14, 17])
 Ph
def NS : Af := .seq (.seq (.ops [mv_ 88 0,
  po_ 89 (.lenV (.t 88)),
  po_ 90 (.mov (ci_ 0))] [0, 4, 7, 14, 88, 89, 90])
 OX)
 OZ
def Ol : Af := .seq (.ops [po_ 14 (.mov (.c (.slice none 0 0)))] [0, 4, 7, 14])
 NS
def NF : Af := .seq (.seq (.ops [mv_ 55 0,
  po_ 56 (.lenV (.t 55)),
  po_ 57 (.mov (ci_ 0))] [0, 4, 7, 55, 56, 57])
 OY)
 Ol
def Ox : Af := .seq (.ops [so_ 54 (.mkm (.arr 20) none),
  mv_ 7 54] [0, 4, 7])
 NF
def Oe : Af := .seq (.seq (.ops [mv_ 40 0,
  po_ 41 (.lenV (.t 40)),
  po_ 42 (.bin 3 .gtr (.t 41) (ci_ 2000)),
  mv_ 43 42,
  ⟨some 44, .p (.mov (.t 4)), some ⟨43, false⟩⟩,
  ⟨some 45, .p (.nilc (.t 44)), some ⟨43, false⟩⟩,
  ⟨some 46, .p (.fieldA 0 0 (.t 45)), some ⟨43, false⟩⟩,
  ⟨some 47, .p (.load false 1 (.t 46)), some ⟨43, false⟩⟩,
  ⟨some 48, .p (.gen .lenM [.t 47]), some ⟨43, false⟩⟩,
  ⟨some 49, .p (.mov (.t 0)), some ⟨43, false⟩⟩,
  ⟨some 50, .p (.lenV (.t 49)), some ⟨43, false⟩⟩,
  ⟨some 51, .p (.bin 3 .lss (.t 48) (.t 50)), some ⟨43, false⟩⟩,
  po_ 52 (.pick (.t 43) (.c (.bool true)) (.t 51))] [0, 4, 52])
 (.cond (.t 52)
 (.seq (.ops [po_ 53 (.iface 36 (ci_ 80)),
   po_ 2 (.mov (.c (.pointer none))),
   mv_ 3 53] [2, 3])
  (.ret))
 (.skip)))
 Ox
def NM : Af := .seq (.seq (.ops [mv_ 26 0,
  po_ 27 (.lenV (.t 26)),
  po_ 28 (.mov (ci_ 0))] [0, 4, 26, 27, 28])
 QZ)
 Oe
def Oq : Af := .seq (.ops [mv_ 21 0,
  po_ 22 (.lenV (.t 21)),
  so_ 23 (.mkm (.arr 20) (some (.t 22))),
  ⟨some 24, .p (.build [.val (.map none), .val (.map none)] [1, 1] [⟨0, .t 23⟩]), none⟩,
  so_ 25 (.box (.t 24)),
  mv_ 4 25] [0, 4])
 NM
def Yk : Af := .seq (.ops [po_ 2 (.mov (.c (.pointer none))),
  po_ 3 (.mov (.c .nilIface))] [0])
 Oq
def Yn : List VR := [.tmp 2, .tmp 3]
theorem Ack : Tryd.f35.body.bind (trC Tryd.prog Tryd.f35.ntmps) = some (er Yk) := by kernel_rfl
theorem Acn : trR Tryd.prog Tryd.f35.results.toList = some Yn := by kernel_rfl
def Xo := Ac Qm.eq_1
def WY := Ac Rf.eq_1
def XE := Ac Qq.eq_1
def XU := Ac QZ.eq_1
def Yc := Ac QI.eq_1
def XF := Ac RD.eq_1
def XI := Ac Rl.eq_1
def Yb := Ac Rq.eq_1
def Xe := Ac Rn.eq_1
def WC := Ac NW.eq_1
def WL := Ac O0.eq_1
def WI := Ac O7.eq_1
def U1 := Ac NR.eq_1
def Va := Ac OV.eq_1
def UR := Ac OY.eq_1
def UU := Ac OM.eq_1
def VF := Ac Pj.eq_1
def V4 := Ac NL.eq_1
def Ws := Ac OX.eq_1
def Wl := Ac NE.eq_1
def Vm := Ac OC.eq_1
def VX := Ac O3.eq_1
def VS := Ac OL.eq_1
def VN := Ac Ou.eq_1
def Wu := Ac O9.eq_1
def U4 := Ac OA.eq_1
def UQ := Ac ND.eq_1
def VZ := Ac OJ.eq_1
def Wv := Ac NT.eq_1
def Vt := Ac N7.eq_1
def VT := Ac Ph.eq_1
def Vk := Ac OZ.eq_1
def Vb := Ac NS.eq_1
def VV := Ac Ol.eq_1
def VU := Ac NF.eq_1
def V5 := Ac Ox.eq_1
def U2 := Ac Oe.eq_1
def WM := Ac NM.eq_1
def Vr := Ac Oq.eq_1
def Aal := Ac Yk.eq_1
theorem ZX {K : TV → Prop} {e : Env} {H : List Ob} : res Yn e H K = res [.tmp 2, .tmp 3] e H K := Aa rfl
def AQ := (And.intro (And.intro (And.intro (And.intro (And.intro (And.intro @Xo @WY) (And.intro @XE @XU)) (And.intro (And.intro @Yc @XF) (And.intro @XI @Yb))) (And.intro (And.intro (And.intro @Xe @WC) (And.intro @WL @WI)) (And.intro (And.intro @U1 @Va) (And.intro @UR @UU)))) (And.intro (And.intro (And.intro (And.intro @VF @V4) (And.intro @Ws @Wl)) (And.intro (And.intro @Vm @VX) (And.intro @VS @VN))) (And.intro (And.intro (And.intro @Wu @U4) (And.intro @UQ @VZ)) (And.intro (And.intro @Wv @Vt) (And.intro @VT @Vk))))) (And.intro (And.intro (And.intro (And.intro @Vb @VV) (And.intro @VU @V5)) (And.intro (And.intro @U2 @WM) (And.intro @Vr @Aal))) @ZX))
def Abv := DN 148 Tryd.func35 Ack Acn rfl

def S9 : Af := .seq (.seq (.ops [mv_ 6 5,
  mv_ 7 0,
  po_ 8 (.lenV (.t 7)),
  po_ 9 (.bin 3 .lss (.t 6) (.t 8))] [0, 3, 5, 9])
 (.cond (.t 9)
 (.skip)
 (.exit 0)))
 (.seq (.block 1 (.seq (.draw 5 [mv_ 12 0,
  mv_ 13 5,
  po_ 14 (.idxA 22 (.t 12) (.t 13)),
  po_ 15 (.fieldA 0 0 (.t 14)),
  po_ 16 (.load true 20 (.t 15)),
  po_ 17 (.load true 20 (.t 3)),
  po_ 18 (.gen (.eqA 20 false) [.t 16, .t 17])] [0, 3, 5, 18])
 (.cond (.t 18)
 (.seq (.ops [mv_ 19 5,
   mv_ 4 19] [4])
  (.ret))
 (.skip))))
 (.ops [mv_ 10 5,
  po_ 11 (.bin 3 .add (.t 10) (ci_ 1)),
  mv_ 5 11] [0, 3, 5]))
def SQ : Af := .block 0 (.loop [0, 3, 5] S9)
def Tc : Af := .seq (.ops [po_ 4 (.mov (.c (.int .i64 (-1))))] [4])
 (.ret)
def Tt : Af := .seq (.seq (.ops [po_ 5 (.mov (ci_ 0))] [0, 3, 5])
 SQ)
 Tc
def Zv : Af := .seq (.ops [so_ 3 (.box (.t 1)),
  po_ 4 (.mov (ci_ 0))] [0, 3])
 Tt
def Y6 : List VR := [.tmp 4]
theorem Adl : Tryd.f32.body.bind (trC Tryd.prog Tryd.f32.ntmps) = some (er Zv) := by kernel_rfl
theorem AdO : trR Tryd.prog Tryd.f32.results.toList = some Y6 := by kernel_rfl
def YM := Ac S9.eq_1
def YQ := Ac SQ.eq_1
def YD := Ac Tc.eq_1
def YJ := Ac Tt.eq_1
def AbB := Ac Zv.eq_1
theorem Aa1 {K : TV → Prop} {e : Env} {H : List Ob} : res Y6 e H K = res [.tmp 4] e H K := Aa rfl
def Ja := (And.intro (And.intro (And.intro @YM @YQ) (And.intro @YD @YJ)) (And.intro @AbB @Aa1))
def AcI := DN 20 Tryd.func32 Adl AdO rfl

def Qg : Af := .seq (.block 1 (.seq (.ops [mv_ 21 0,
  mv_ 22 1,
  mv_ 23 6,
  po_ 24 (.idxA 20 (.t 22) (.t 23)),
  po_ 25 (.load true 20 (.t 24)),
  so_ 26 (.call 32 [.t 21, .t 25]),
  mv_ 7 26] [0, 1, 5, 6, 7])
 (.ops [mv_ 27 5,
  mv_ 28 7,
  po_ 29 (.idxA 1 (.t 27) (.t 28)),
  ⟨none, .s (.store 1 (.t 29) (.c (.bool true))), none⟩] [0, 1, 5, 6])))
 (.ops [mv_ 19 6,
  po_ 20 (.bin 3 .add (.t 19) (ci_ 1)),
  mv_ 6 20] [0, 1, 5, 6])
def QC : Af := .seq (.seq (.ops [mv_ 15 6,
  mv_ 16 1,
  po_ 17 (.lenV (.t 16)),
  po_ 18 (.bin 3 .lss (.t 15) (.t 17))] [0, 1, 5, 6, 18])
 (.cond (.t 18)
 (.skip)
 (.exit 0)))
 Qg
def PZ : Af := .block 0 (.loop [0, 1, 5, 6] QC)
def Ro : Af := .seq (.block 7 (.seq (.ops [mv_ 53 0,
  mv_ 54 0,
  mv_ 55 9,
  po_ 56 (.idxA 22 (.t 54) (.t 55)),
  po_ 57 (.fieldA 1 20 (.t 56)),
  po_ 58 (.load false 1 (.t 57)),
  mv_ 59 10,
  po_ 60 (.idxA 20 (.t 58) (.t 59)),
  po_ 61 (.load true 20 (.t 60)),
  so_ 62 (.call 32 [.t 53, .t 61]),
  mv_ 11 62] [0, 5, 8, 9, 10, 11])
 (.seq (.ops [mv_ 63 5,
  mv_ 64 11,
  po_ 65 (.idxA 1 (.t 63) (.t 64)),
  po_ 66 (.load false 1 (.t 65)),
  po_ 67 (.un .not (.t 66))] [0, 5, 8, 9, 10, 11, 67])
 (.cond (.t 67)
 (.seq (.ops [mv_ 68 5,
   mv_ 69 11,
   po_ 70 (.idxA 1 (.t 68) (.t 69)),
   ⟨none, .s (.store 1 (.t 70) (.c (.bool true))), none⟩] [0, 5, 9, 10])
  (.ops [po_ 8 (.mov (.c (.bool true)))] [0, 5, 8, 9, 10]))
 (.skip)))))
 (.ops [mv_ 51 10,
  po_ 52 (.bin 3 .add (.t 51) (ci_ 1)),
  mv_ 10 52] [0, 5, 8, 9, 10])
def Qw : Af := .seq (.seq (.ops [mv_ 37 10,
  mv_ 38 0,
  mv_ 39 9,
  po_ 40 (.idxA 22 (.t 38) (.t 39)),
  po_ 41 (.fieldA 1 20 (.t 40)),
  po_ 42 (.load false 1 (.t 41)),
  po_ 43 (.lenV (.t 42)),
  po_ 44 (.bin 3 .lss (.t 37) (.t 43)),
  mv_ 45 44,
  ⟨some 46, .p (.mov (.t 5)), some ⟨45, true⟩⟩,
  ⟨some 47, .p (.mov (.t 9)), some ⟨45, true⟩⟩,
  ⟨some 48, .p (.idxA 1 (.t 46) (.t 47)), some ⟨45, true⟩⟩,
  ⟨some 49, .p (.load false 1 (.t 48)), some ⟨45, true⟩⟩,
  po_ 50 (.pick (.t 45) (.t 49) (.c (.bool false)))] [0, 5, 8, 9, 10, 50])
 (.cond (.t 50)
 (.skip)
 (.exit 6)))
 Ro
def QE : Af := .block 6 (.loop [0, 5, 8, 9, 10] Qw)
def Qi : Af := .ops [mv_ 35 9,
  po_ 36 (.bin 3 .add (.t 35) (ci_ 1)),
  mv_ 9 36] [0, 5, 8, 9]
def P8 : Af := .seq (.block 5 (.seq (.ops [po_ 10 (.mov (ci_ 0))] [0, 5, 8, 9, 10])
 QE))
 Qi
def QU : Af := .seq (.seq (.ops [mv_ 31 9,
  mv_ 32 0,
  po_ 33 (.lenV (.t 32)),
  po_ 34 (.bin 3 .lss (.t 31) (.t 33))] [0, 5, 8, 9, 34])
 (.cond (.t 34)
 (.skip)
 (.exit 4)))
 P8
def OO : Af := .block 4 (.loop [0, 5, 8, 9] QU)
def Oo : Af := .seq (.ops [po_ 9 (.mov (ci_ 0))] [0, 5, 8, 9])
 OO
def Nz : Af := .block 3 (.seq (.ops [po_ 8 (.mov (.c (.bool false)))] [0, 5, 8])
 Oo)
def N8 : Af := .seq (.seq (.ops [mv_ 30 8] [0, 5, 30])
 (.cond (.t 30)
 (.skip)
 (.exit 2)))
 Nz
def Oz : Af := .block 2 (.loop [0, 5, 8] N8)
def OG : Af := .seq (.ops [mv_ 71 5,
  mv_ 4 71] [4])
 (.ret)
def Oy : Af := .seq (.seq (.ops [po_ 8 (.mov (.c (.bool true)))] [0, 5, 8])
 Oz)
 OG
def Pg : Af := .seq (.seq (.ops [po_ 6 (.mov (ci_ 0))] [0, 1, 5, 6])
 PZ)
 Oy
def NJ : Af := .seq (.ops [mv_ 12 0,
  po_ 13 (.lenV (.t 12)),
  so_ 14 (.mks 1 1 (.val (.bool false)) (.t 13) (.t 13)),
  mv_ 5 14] [0, 1, 5])
 Pg
def Yo : Af := .seq (.ops [po_ 4 (.mov (.c (.slice none 0 0)))] [0, 1])
 NJ
def Yi : List VR := [.tmp 4]
theorem AcO : Tryd.f29.body.bind (trC Tryd.prog Tryd.f29.ntmps) = some (er Yo) := by kernel_rfl
theorem Acl : trR Tryd.prog Tryd.f29.results.toList = some Yi := by kernel_rfl
def XT := Ac Qg.eq_1
def WZ := Ac QC.eq_1
def Xb := Ac PZ.eq_1
def XA := Ac Ro.eq_1
def XB := Ac Qw.eq_1
def W9 := Ac QE.eq_1
def XC := Ac Qi.eq_1
def Yd := Ac P8.eq_1
def X4 := Ac QU.eq_1
def Wh := Ac OO.eq_1
def Vu := Ac Oo.eq_1
def Wy := Ac Nz.eq_1
def UW := Ac N8.eq_1
def VK := Ac Oz.eq_1
def Wq := Ac OG.eq_1
def WB := Ac Oy.eq_1
def U6 := Ac Pg.eq_1
def Wj := Ac NJ.eq_1
def Aan := Ac Yo.eq_1
theorem ZT {K : TV → Prop} {e : Env} {H : List Ob} : res Yi e H K = res [.tmp 4] e H K := Aa rfl
def Bv := (And.intro (And.intro (And.intro (And.intro (And.intro @XT @WZ) (And.intro @Xb @XA)) (And.intro (And.intro @XB @W9) (And.intro @XC @Yd))) (And.intro (And.intro (And.intro @X4 @Wh) (And.intro @Vu @Wy)) (And.intro (And.intro @UW @VK) (And.intro @Wq @WB)))) (And.intro (And.intro @U6 @Wj) (And.intro @Aan @ZT)))
def Aa8 := DN 72 Tryd.func29 AcO Acl rfl

def P9 : Af := .seq (.block 3 (.seq (.ops [mv_ 36 0,
  mv_ 37 0,
  mv_ 38 3,
  po_ 39 (.idxA 22 (.t 37) (.t 38)),
  po_ 40 (.fieldA 1 20 (.t 39)),
  po_ 41 (.load false 1 (.t 40)),
  mv_ 42 4,
  po_ 43 (.idxA 20 (.t 41) (.t 42)),
  po_ 44 (.load true 20 (.t 43)),
  so_ 45 (.call 32 [.t 36, .t 44]),
  mv_ 5 45] [0, 3, 4, 5])
 (.seq (.ops [mv_ 46 5,
  po_ 47 (.bin 3 .lss (.t 46) (ci_ 0))] [0, 3, 4, 47])
 (.cond (.t 47)
 (.seq (.ops [po_ 2 (.mov (ci_ 80))] [2])
  (.ret))
 (.skip)))))
 (.ops [mv_ 34 4,
  po_ 35 (.bin 3 .add (.t 34) (ci_ 1)),
  mv_ 4 35] [0, 3, 4])
def QG : Af := .seq (.seq (.ops [mv_ 26 4,
  mv_ 27 0,
  mv_ 28 3,
  po_ 29 (.idxA 22 (.t 27) (.t 28)),
  po_ 30 (.fieldA 1 20 (.t 29)),
  po_ 31 (.load false 1 (.t 30)),
  po_ 32 (.lenV (.t 31)),
  po_ 33 (.bin 3 .lss (.t 26) (.t 32))] [0, 3, 4, 33])
 (.cond (.t 33)
 (.skip)
 (.exit 2)))
 P9
def Qx : Af := .block 2 (.loop [0, 3, 4] QG)
def Qa : Af := .seq (.ops [po_ 4 (.mov (ci_ 0))] [0, 3, 4])
 Qx
def QT : Af := .ops [mv_ 15 3,
  po_ 16 (.bin 3 .add (.t 15) (ci_ 1)),
  mv_ 3 16] [0, 3]
def QM : Af := .seq (.block 1 (.seq (.seq (.ops [mv_ 17 0,
  mv_ 18 0,
  mv_ 19 3,
  po_ 20 (.idxA 22 (.t 18) (.t 19)),
  po_ 21 (.fieldA 0 0 (.t 20)),
  po_ 22 (.load true 20 (.t 21)),
  so_ 23 (.call 32 [.t 17, .t 22]),
  mv_ 24 3,
  po_ 25 (.bin 3 .neq (.t 23) (.t 24))] [0, 3, 25])
 (.cond (.t 25)
 (.seq (.ops [po_ 2 (.mov (ci_ 80))] [2])
  (.ret))
 (.skip)))
 Qa))
 QT
def Qn : Af := .seq (.seq (.ops [mv_ 11 3,
  mv_ 12 0,
  po_ 13 (.lenV (.t 12)),
  po_ 14 (.bin 3 .lss (.t 11) (.t 13))] [0, 3, 14])
 (.cond (.t 14)
 (.skip)
 (.exit 0)))
 QM
def PM : Af := .block 0 (.loop [0, 3] Qn)
def Ru : Af := .seq (.block 5 (.seq (.ops [mv_ 54 0,
  mv_ 55 0,
  mv_ 56 6,
  po_ 57 (.idxA 22 (.t 55) (.t 56)),
  po_ 58 (.fieldA 1 20 (.t 57)),
  po_ 59 (.load false 1 (.t 58)),
  so_ 60 (.call 29 [.t 54, .t 59]),
  mv_ 7 60] [0, 6, 7])
 (.seq (.ops [mv_ 61 7,
  mv_ 62 6,
  po_ 63 (.idxA 1 (.t 61) (.t 62)),
  po_ 64 (.load false 1 (.t 63))] [0, 6, 64])
 (.cond (.t 64)
 (.seq (.ops [po_ 2 (.mov (ci_ 80))] [2])
  (.ret))
 (.skip)))))
 (.ops [mv_ 52 6,
  po_ 53 (.bin 3 .add (.t 52) (ci_ 1)),
  mv_ 6 53] [0, 6])
def OQ : Af := .seq (.seq (.ops [mv_ 48 6,
  mv_ 49 0,
  po_ 50 (.lenV (.t 49)),
  po_ 51 (.bin 3 .lss (.t 48) (.t 50))] [0, 6, 51])
 (.cond (.t 51)
 (.skip)
 (.exit 4)))
 Ru
def NU : Af := .block 4 (.loop [0, 6] OQ)
def Ot : Af := .seq (.ops [po_ 2 (.mov (ci_ 0))] [2])
 (.ret)
def Om : Af := .seq (.seq (.ops [po_ 6 (.mov (ci_ 0))] [0, 6])
 NU)
 Ot
def OT : Af := .seq (.seq (.ops [po_ 3 (.mov (ci_ 0))] [0, 3])
 PM)
 Om
def NH : Af := .seq (.seq (.ops [mv_ 8 0,
  po_ 9 (.lenV (.t 8)),
  po_ 10 (.bin 3 .gtr (.t 9) (ci_ 2000))] [0, 10])
 (.cond (.t 10)
 (.seq (.ops [po_ 2 (.mov (ci_ 80))] [2])
  (.ret))
 (.skip)))
 OT
def Yg : Af := .seq (.ops [po_ 2 (.mov (ci_ 0))] [0])
 NH
def Yz : List VR := [.tmp 2]
theorem AcS : Tryd.f27.body.bind (trC Tryd.prog Tryd.f27.ntmps) = some (er Yg) := by kernel_rfl
theorem Ace : trR Tryd.prog Tryd.f27.results.toList = some Yz := by kernel_rfl
def XZ := Ac P9.eq_1
def Xn := Ac QG.eq_1
def XK := Ac Qx.eq_1
def X5 := Ac Qa.eq_1
def WU := Ac QT.eq_1
def Xf := Ac QM.eq_1
def Xq := Ac Qn.eq_1
def Yf := Ac PM.eq_1
def WX := Ac Ru.eq_1
def WP := Ac OQ.eq_1
def VM := Ac NU.eq_1
def WH := Ac Ot.eq_1
def VD := Ac Om.eq_1
def U8 := Ac OT.eq_1
def VP := Ac NH.eq_1
def ZV := Ac Yg.eq_1
theorem Aaf {K : TV → Prop} {e : Env} {H : List Ob} : res Yz e H K = res [.tmp 2] e H K := Aa rfl
def Bq := (And.intro (And.intro (And.intro (And.intro (And.intro @XZ @Xn) (And.intro @XK @X5)) (And.intro (And.intro @WU @Xf) (And.intro @Xq @Yf))) (And.intro (And.intro (And.intro @WX @WP) (And.intro @VM @WH)) (And.intro (And.intro @VD @U8) (And.intro @VP @ZV)))) @Aaf)
def Abd := DN 65 Tryd.func27 AcS Ace rfl

def V9 : Af := .seq (.seq (.ops [mv_ 7 3,
  mv_ 8 0,
  po_ 9 (.lenV (.t 8)),
  po_ 10 (.bin 3 .lss (.t 7) (.t 9))] [0, 3, 10])
 (.cond (.t 10)
 (.skip)
 (.exit 0)))
 (.seq (.block 1 (.seq (.ops [mv_ 13 0,
  mv_ 14 3,
  po_ 15 (.idxA 22 (.t 13) (.t 14)),
  po_ 16 (.fieldA 1 20 (.t 15)),
  po_ 17 (.load false 1 (.t 16)),
  po_ 18 (.lenV (.t 17)),
  po_ 19 (.bin 3 .gtr (.t 18) (ci_ 40))] [0, 3, 19])
 (.cond (.t 19)
 (.seq (.ops [po_ 2 (.mov (.c (.bool false)))] [2])
  (.ret))
 (.skip))))
 (.ops [mv_ 11 3,
  po_ 12 (.bin 3 .add (.t 11) (ci_ 1)),
  mv_ 3 12] [0, 3]))
def Wp : Af := .block 0 (.loop [0, 3] V9)
def Vd : Af := .seq (.ops [po_ 2 (.mov (.c (.bool true)))] [2])
 (.ret)
def VE : Af := .seq (.seq (.ops [po_ 3 (.mov (ci_ 0))] [0, 3])
 Wp)
 Vd
def UY : Af := .seq (.seq (.ops [mv_ 4 0,
  po_ 5 (.lenV (.t 4)),
  po_ 6 (.bin 3 .gtr (.t 5) (ci_ 40))] [0, 6])
 (.cond (.t 6)
 (.seq (.ops [po_ 2 (.mov (.c (.bool false)))] [2])
  (.ret))
 (.skip)))
 VE
def Aar : Af := .seq (.ops [po_ 2 (.mov (.c (.bool false)))] [0])
 UY
def AaR : List VR := [.tmp 2]
theorem AfA : Tryd.f6.body.bind (trC Tryd.prog Tryd.f6.ntmps) = some (er Aar) := by kernel_rfl
theorem AeZ : trR Tryd.prog Tryd.f6.results.toList = some AaR := by kernel_rfl
def ZJ := Ac V9.eq_1
def Zb := Ac Wp.eq_1
def ZP := Ac Vd.eq_1
def Y9 := Ac VE.eq_1
def Zm := Ac UY.eq_1
def AcR := Ac Aar.eq_1
theorem Ach {K : TV → Prop} {e : Env} {H : List Ob} : res AaR e H K = res [.tmp 2] e H K := Aa rfl
def KH := (And.intro (And.intro (And.intro @ZJ @Zb) (And.intro @ZP @Y9)) (And.intro (And.intro @Zm @AcR) @Ach))
def Ad3 := DN 20 Tryd.func6 AfA AeZ rfl

def Ov : Af := .draw 7 [mv_ 18 3,
  mv_ 19 0,
  mv_ 20 4,
  po_ 21 (.idxA 22 (.t 19) (.t 20)),
  po_ 22 (.fieldA 0 0 (.t 21)),
  po_ 23 (.load true 20 (.t 22)),
  mv_ 24 5,
  mv_ 25 0,
  mv_ 26 4,
  po_ 27 (.idxA 22 (.t 25) (.t 26)),
  po_ 28 (.fieldA 2 21 (.t 27)),
  po_ 29 (.load false 1 (.t 28)),
  ⟨some 30, .p (.build [.arr 20 1 [.val (.int .u8 ((0 : Nat) : Int)), .val (.int .u8 ((0 : Nat) : Int)), .val (.int .u8 ((0 : Nat) : Int)), .val (.int .u8 ((0 : Nat) : Int)), .val (.int .u8 ((0 : Nat) : Int)), .val (.int .u8 ((0 : Nat) : Int)), .val (.int .u8 ((0 : Nat) : Int)), .val (.int .u8 ((0 : Nat) : Int)), .val (.int .u8 ((0 : Nat) : Int)), .val (.int .u8 ((0 : Nat) : Int)), .val (.int .u8 ((0 : Nat) : Int)), .val (.int .u8 ((0 : Nat) : Int)), .val (.int .u8 ((0 : Nat) : Int)), .val (.int .u8 ((0 : Nat) : Int)), .val (.int .u8 ((0 : Nat) : Int)), .val (.int .u8 ((0 : Nat) : Int)), .val (.int .u8 ((0 : Nat) : Int)), .val (.int .u8 ((0 : Nat) : Int)), .val (.int .u8 ((0 : Nat) : Int)), .val (.int .u8 ((0 : Nat) : Int))], .val (.slice none 0 0), .val (.int .i64 ((0 : Nat) : Int))] [20, 1, 1] [⟨0, .t 23⟩, ⟨1, .t 24⟩, ⟨2, .t 29⟩]), none⟩,
  ⟨some 31, .s (.bslice 22 1 (.agg [.arr 20 1 [.val (.int .u8 ((0 : Nat) : Int)), .val (.int .u8 ((0 : Nat) : Int)), .val (.int .u8 ((0 : Nat) : Int)), .val (.int .u8 ((0 : Nat) : Int)), .val (.int .u8 ((0 : Nat) : Int)), .val (.int .u8 ((0 : Nat) : Int)), .val (.int .u8 ((0 : Nat) : Int)), .val (.int .u8 ((0 : Nat) : Int)), .val (.int .u8 ((0 : Nat) : Int)), .val (.int .u8 ((0 : Nat) : Int)), .val (.int .u8 ((0 : Nat) : Int)), .val (.int .u8 ((0 : Nat) : Int)), .val (.int .u8 ((0 : Nat) : Int)), .val (.int .u8 ((0 : Nat) : Int)), .val (.int .u8 ((0 : Nat) : Int)), .val (.int .u8 ((0 : Nat) : Int)), .val (.int .u8 ((0 : Nat) : Int)), .val (.int .u8 ((0 : Nat) : Int)), .val (.int .u8 ((0 : Nat) : Int)), .val (.int .u8 ((0 : Nat) : Int))], .val (.slice none 0 0), .val (.int .i64 ((0 : Nat) : Int))]) [⟨0, .t 30⟩]), none⟩,
  so_ 32 (.app 22 56 72 (.t 18) (.t 31)),
  mv_ 3 32] [0, 3, 4]
def Oc : Af := .seq (.block 1 (.seq (.ops [mv_ 12 0,
  mv_ 13 4,
  po_ 14 (.idxA 22 (.t 12) (.t 13)),
  po_ 15 (.fieldA 1 20 (.t 14)),
  po_ 16 (.load false 1 (.t 15)),
  so_ 17 (.call 9 [.t 16]),
  mv_ 5 17] [0, 3, 4, 5])
 Ov))
 (.ops [mv_ 10 4,
  po_ 11 (.bin 3 .add (.t 10) (ci_ 1)),
  mv_ 4 11] [0, 3, 4])
def OU : Af := .seq (.seq (.ops [mv_ 6 4,
  mv_ 7 0,
  po_ 8 (.lenV (.t 7)),
  po_ 9 (.bin 3 .lss (.t 6) (.t 8))] [0, 3, 4, 9])
 (.cond (.t 9)
 (.skip)
 (.exit 0)))
 Oc
def NV : Af := .block 0 (.own 3 22 (.loop [0, 3, 4] OU))
def Oj : Af := .seq (.ops [mv_ 33 3,
  mv_ 2 33] [2])
 (.ret)
def N9 : Af := .seq (.seq (.ops [po_ 4 (.mov (ci_ 0))] [0, 3, 4])
 NV)
 Oj
def Pn : Af := .seq (.ops [po_ 3 (.mov (.c (.slice none 0 0)))] [0, 3])
 N9
def VW : Af := .seq (.ops [po_ 2 (.mov (.c (.slice none 0 0)))] [0])
 Pn
def V6 : List VR := [.tmp 2]
theorem Abn : Tryd.f8.body.bind (trC Tryd.prog Tryd.f8.ntmps) = some (er VW) := by kernel_rfl
theorem AaY : trR Tryd.prog Tryd.f8.results.toList = some V6 := by kernel_rfl
def VJ := Ac Ov.eq_1
def WR := Ac Oc.eq_1
def VI := Ac OU.eq_1
def V7 := Ac NV.eq_1
def U7 := Ac Oj.eq_1
def VL := Ac N9.eq_1
def Vo := Ac Pn.eq_1
def ZF := Ac VW.eq_1
theorem Za {K : TV → Prop} {e : Env} {H : List Ob} : res V6 e H K = res [.tmp 2] e H K := Aa rfl
def Il := (And.intro (And.intro (And.intro (And.intro @VJ @WR) (And.intro @VI @V7)) (And.intro (And.intro @U7 @VL) (And.intro @Vo @ZF))) @Za)
def ZY := DN 34 Tryd.func8 Abn AaY rfl

def QL : Af := .seq (.seq (.ops [mv_ 5 4,
  mv_ 6 0,
  po_ 7 (.lenV (.t 6)),
  po_ 8 (.bin 3 .lss (.t 5) (.t 7))] [0, 3, 4, 8])
 (.cond (.t 8)
 (.skip)
 (.exit 0)))
 (.seq (.block 1 (.ops [mv_ 11 3,
  mv_ 12 0,
  mv_ 13 4,
  po_ 14 (.idxA 20 (.t 12) (.t 13)),
  po_ 15 (.load true 20 (.t 14)),
  ⟨some 16, .s (.bslice 20 1 (.arr 20 1 [.val (.int .u8 ((0 : Nat) : Int)), .val (.int .u8 ((0 : Nat) : Int)), .val (.int .u8 ((0 : Nat) : Int)), .val (.int .u8 ((0 : Nat) : Int)), .val (.int .u8 ((0 : Nat) : Int)), .val (.int .u8 ((0 : Nat) : Int)), .val (.int .u8 ((0 : Nat) : Int)), .val (.int .u8 ((0 : Nat) : Int)), .val (.int .u8 ((0 : Nat) : Int)), .val (.int .u8 ((0 : Nat) : Int)), .val (.int .u8 ((0 : Nat) : Int)), .val (.int .u8 ((0 : Nat) : Int)), .val (.int .u8 ((0 : Nat) : Int)), .val (.int .u8 ((0 : Nat) : Int)), .val (.int .u8 ((0 : Nat) : Int)), .val (.int .u8 ((0 : Nat) : Int)), .val (.int .u8 ((0 : Nat) : Int)), .val (.int .u8 ((0 : Nat) : Int)), .val (.int .u8 ((0 : Nat) : Int)), .val (.int .u8 ((0 : Nat) : Int))]) [⟨0, .t 15⟩]), none⟩,
  so_ 17 (.app 20 20 39 (.t 11) (.t 16)),
  mv_ 3 17] [0, 3, 4]))
 (.ops [mv_ 9 4,
  po_ 10 (.bin 3 .add (.t 9) (ci_ 1)),
  mv_ 4 10] [0, 3, 4]))
def QX : Af := .block 0 (.own 3 20 (.loop [0, 3, 4] QL))
def Ry : Af := .seq (.ops [mv_ 18 3,
  mv_ 2 18] [2])
 (.ret)
def QF : Af := .seq (.seq (.ops [po_ 4 (.mov (ci_ 0))] [0, 3, 4])
 QX)
 Ry
def PO : Af := .seq (.ops [po_ 3 (.mov (.c (.slice none 0 0)))] [0, 3])
 QF
def Yx : Af := .seq (.ops [po_ 2 (.mov (.c (.slice none 0 0)))] [0])
 PO
def Ym : List VR := [.tmp 2]
theorem Ac0 : Tryd.f9.body.bind (trC Tryd.prog Tryd.f9.ntmps) = some (er Yx) := by kernel_rfl
theorem Ab3 : trR Tryd.prog Tryd.f9.results.toList = some Ym := by kernel_rfl
def Xl := Ac QL.eq_1
def Xj := Ac QX.eq_1
def XG := Ac Ry.eq_1
def XO := Ac QF.eq_1
def XL := Ac PO.eq_1
def Aae := Ac Yx.eq_1
theorem Z9 {K : TV → Prop} {e : Env} {H : List Ob} : res Ym e H K = res [.tmp 2] e H K := Aa rfl
def QK := (And.intro (And.intro (And.intro @Xl @Xj) (And.intro @XG @XO)) (And.intro (And.intro @XL @Aae) @Z9))
def AbJ := DN 19 Tryd.func9 Ac0 Ab3 rfl

end Go.Proofs.YtingoaihnlhiaaaDoor


namespace Go.Proofs.YtingoaihnlhiaaaDoor
open Go.RowKit
variable [A7]
set_option linter.unusedSectionVars false
set_option linter.unusedVariables false
set_option linter.unusedSimpArgs false

/-- A node: its id, its parents, its time. -/
structure Nd where
 id : List UInt8
 ps : List (List UInt8)
 tm : Int
def idT (l : List UInt8) : TV := .arr 20 1 (l.map by8)
theorem AZ {l : List UInt8} : idT l = .arr 20 1 (l.map by8) := by unfold idT; rfl
def ndT (n : Nd) : TV := .agg [idT n.id, .sl 20 (n.ps.map idT), i64 n.tm]
theorem AP {n : Nd} : ndT n = .agg [.arr 20 1 (n.id.map by8), .sl 20 (n.ps.map idT), i64 n.tm] := by unfold ndT; rw [AZ]
theorem FQ {l : List UInt8} : AB (idT l) = 20 := by rw [AZ]; rfl
/-- Where it lies; -1: nowhere. -/
def fnd (l : List Nd) (x : List UInt8) : Int := if ∃ n ∈ l, n.id = x then ((l.findIdx fun n => n.id == x : Nat) : Int) else -1
theorem AlG {l : List Nd} {x : List UInt8} {i : Nat} (hi : i < l.length) (h0 : ∀ k (hk : k < i), l[k].id ≠ x) (h : l[i].id = x) : fnd l x = i := by
 unfold fnd
 rw [if_pos ⟨l[i], List.getElem_mem hi, h⟩]
 congr 1
 rw [List.findIdx_eq hi]
 exact ⟨by simpa using h, fun k hk => by simpa using h0 k hk⟩
theorem AqL {l : List Nd} {x : List UInt8} (h0 : ∀ k (hk : k < l.length), l[k].id ≠ x) : fnd l x = -1 := by
 unfold fnd
 rw [if_neg]
 rintro ⟨n, hn, h⟩
 obtain ⟨k, hk, rfl⟩ := List.mem_iff_getElem.1 hn
 exact h0 k hk h
theorem Acj (l : List Nd) (x : List UInt8) (hl : l.length ≤ 100000) : Et Tryd.prog 32 [.sl 22 (l.map ndT), idT x] (fun r => r = i64 (fnd l x)) := by
 rw [AZ]
 refine Aq.toPureV (AcI (by simp) ?_)
 simp -dsimp (disch := first | assumption | omega) only [↓Ag, Ad, Ai, Ah, eq_self, forall_const, Nat.reduceLT, Nat.reduceEqDiff, Nat.reduceSub, Nat.reduceMul, Nat.reduceMod, Nat.reduceDiv, Nat.reducePow, UInt8.reduceToNat, Int.reduceEq, Int.reduceLT, Int.reduceLE, ↓reduceIte, Nat.reduceAdd, Int.reduceToNat, reduceCtorEq, Nat.reduceLeDiff, ↓Ja]
 refine BG (fun m e H => ∃ i : Nat, m = l.length - i ∧ ∃ hi : i ≤ l.length, (∀ k (hk : k < i), l[k].id ≠ x) ∧ e = [(0, .sl 22 (l.map ndT)), (3, .op 0 0 []), (5, i64 (i : Int))] ∧ H = [.obj 0 (.arr 20 1 (x.map by8))]) l.length ?_ ?_
 ·exact ⟨0, by simp, by simp, fun k hk => by omega, rfl, rfl⟩
 ·rintro m e H ⟨i, rfl, hi, h0, rfl, rfl⟩
  by_cases h : i < l.length
  ·have hg : l[i]? = some l[i] := List.getElem?_eq_getElem h
   simp -dsimp (disch := first | assumption | omega) only [↓Ag, Ad, Ai, Ah, eq_self, forall_const, Nat.reduceLT, Nat.reduceEqDiff, Nat.reduceSub, Nat.reduceMul, Nat.reduceMod, Nat.reduceDiv, Nat.reducePow, UInt8.reduceToNat, Int.reduceEq, Int.reduceLT, Int.reduceLE, ↓reduceIte, Nat.reduceAdd, Int.reduceToNat, reduceCtorEq, Nat.reduceLeDiff, ↓Ja, hg, AP]
   by_cases he : l[i].id = x
   ·have hb : (l[i].id == x) = true := by simpa using he
    rw [hb]
    simp -dsimp (disch := first | assumption | omega) only [↓Ag, Ad, Ai, Ah, eq_self, forall_const, Nat.reduceLT, Nat.reduceEqDiff, Nat.reduceSub, Nat.reduceMul, Nat.reduceMod, Nat.reduceDiv, Nat.reducePow, UInt8.reduceToNat, Int.reduceEq, Int.reduceLT, Int.reduceLE, ↓reduceIte, Nat.reduceAdd, Int.reduceToNat, reduceCtorEq, Nat.reduceLeDiff, ↓Ja]
    rw [AlG h h0 he]
   ·have hb : (l[i].id == x) = false := by simpa using he
    rw [hb]
    simp -dsimp (disch := first | assumption | omega) only [↓Ag, Ad, Ai, Ah, eq_self, forall_const, Nat.reduceLT, Nat.reduceEqDiff, Nat.reduceSub, Nat.reduceMul, Nat.reduceMod, Nat.reduceDiv, Nat.reducePow, UInt8.reduceToNat, Int.reduceEq, Int.reduceLT, Int.reduceLE, ↓reduceIte, Nat.reduceAdd, Int.reduceToNat, reduceCtorEq, Nat.reduceLeDiff, ↓Ja]
    refine Az (l.length - (i + 1)) (by omega) (by simp) ⟨i + 1, rfl, by omega, fun k hk => ?_, rfl, rfl⟩
    by_cases hki : k = i
    ·subst hki; exact he
    ·exact h0 k (by omega)
  ·have hi2 : i = l.length := by omega
   subst hi2
   simp -dsimp (disch := first | assumption | omega) only [↓Ag, Ad, Ai, Ah, eq_self, forall_const, Nat.reduceLT, Nat.reduceEqDiff, Nat.reduceSub, Nat.reduceMul, Nat.reduceMod, Nat.reduceDiv, Nat.reducePow, UInt8.reduceToNat, Int.reduceEq, Int.reduceLT, Int.reduceLE, ↓reduceIte, Nat.reduceAdd, Int.reduceToNat, reduceCtorEq, Nat.reduceLeDiff, ↓Ja]
   rw [AqL h0]
end Go.Proofs.YtingoaihnlhiaaaDoor


namespace Go.Proofs.YtingoaihnlhiaaaDoor
open Go.RowKit
variable [A7]
set_option linter.unusedSectionVars false
set_option linter.unusedVariables false
set_option linter.unusedSimpArgs false

theorem Qz {a b : TV} : (List.replicate 1 a).set 0 b = [b] := by simp
theorem Hm {b : TV} : [b].take 1 = [b] := by simp
theorem Ec {α : Type} {f : α → TV} {l : List α} {n : Nat} (h : n = l.length) : (l.map f).take n = l.map f := by rw [List.take_of_length_le (by simp [h])]
theorem Zl {l : List (List UInt8)} {x : List UInt8} : l.map idT ++ [TV.arr 20 1 (x.map by8)] = (l ++ [x]).map idT := by simp [idT]
theorem Ak1 {l : List UInt8} : lays (idT l) = true := by rw [AZ]; rfl
theorem AfT {l : List UInt8} : DW (idT l) = true := by rw [AZ]; rfl
theorem Ac1 {l : List (List UInt8)} {x : List UInt8} : l.map idT ++ [idT x] = (l ++ [x]).map idT := by simp
theorem MQ {l : List UInt8} : Ya (idT l) = true := by rw [AZ]; rfl
/-- few: no more than anything is claimed of? -/
def Aiv (l : List Nd) : Bool := decide (l.length ≤ 40) && l.all fun n => decide (n.ps.length ≤ 40)
theorem A3f (l : List Nd) : Et Tryd.prog 6 [.sl 22 (l.map ndT)] (fun r => r = tb (Aiv l)) := by
 refine Aq.toPureV (Ad3 (by simp) ?_)
 by_cases hl : 40 < l.length
 ·have : Aiv l = false := by unfold Aiv; simp; omega
  rw [this]
  simp -dsimp (disch := first | assumption | omega) only [↓Ag, Ad, Ai, Ah, eq_self, forall_const, Nat.reduceLT, Nat.reduceEqDiff, Nat.reduceSub, Nat.reduceMul, Nat.reduceMod, Nat.reduceDiv, Nat.reducePow, UInt8.reduceToNat, Int.reduceEq, Int.reduceLT, Int.reduceLE, ↓reduceIte, Nat.reduceAdd, Int.reduceToNat, reduceCtorEq, Nat.reduceLeDiff, ↓KH]
 ·simp -dsimp (disch := first | assumption | omega) only [↓Ag, Ad, Ai, Ah, eq_self, forall_const, Nat.reduceLT, Nat.reduceEqDiff, Nat.reduceSub, Nat.reduceMul, Nat.reduceMod, Nat.reduceDiv, Nat.reducePow, UInt8.reduceToNat, Int.reduceEq, Int.reduceLT, Int.reduceLE, ↓reduceIte, Nat.reduceAdd, Int.reduceToNat, reduceCtorEq, Nat.reduceLeDiff, ↓KH]
  refine BG (fun m e H => ∃ i : Nat, m = l.length - i ∧ i ≤ l.length ∧ (∀ n ∈ l.take i, n.ps.length ≤ 40) ∧ e = [(0, .sl 22 (l.map ndT)), (3, i64 (i : Int))] ∧ H = []) l.length ?_ ?_
  ·exact ⟨0, by simp, by simp, by simp, rfl, rfl⟩
  ·rintro m e H ⟨i, rfl, hi, h0, rfl, rfl⟩
   by_cases h : i < l.length
   ·have hg : l[i]? = some l[i] := List.getElem?_eq_getElem h
    by_cases hp : 40 < l[i].ps.length
    ·have : Aiv l = false := by
      unfold Aiv
      rw [Bool.and_eq_false_iff]; right
      rw [List.all_eq_false]
      exact ⟨l[i], List.getElem_mem h, by simpa using hp⟩
     rw [this]
     simp -dsimp (disch := first | assumption | omega) only [↓Ag, Ad, Ai, Ah, eq_self, forall_const, Nat.reduceLT, Nat.reduceEqDiff, Nat.reduceSub, Nat.reduceMul, Nat.reduceMod, Nat.reduceDiv, Nat.reducePow, UInt8.reduceToNat, Int.reduceEq, Int.reduceLT, Int.reduceLE, ↓reduceIte, Nat.reduceAdd, Int.reduceToNat, reduceCtorEq, Nat.reduceLeDiff, ↓KH, hg, AP]
    ·simp -dsimp (disch := first | assumption | omega) only [↓Ag, Ad, Ai, Ah, eq_self, forall_const, Nat.reduceLT, Nat.reduceEqDiff, Nat.reduceSub, Nat.reduceMul, Nat.reduceMod, Nat.reduceDiv, Nat.reducePow, UInt8.reduceToNat, Int.reduceEq, Int.reduceLT, Int.reduceLE, ↓reduceIte, Nat.reduceAdd, Int.reduceToNat, reduceCtorEq, Nat.reduceLeDiff, ↓KH, hg, AP]
     refine Az (l.length - (i + 1)) (by omega) (by simp) ⟨i + 1, rfl, by omega, fun n hn => ?_, rfl, rfl⟩
     rw [List.take_succ_eq_append_getElem h, List.mem_append, List.mem_singleton] at hn
     rcases hn with hn | rfl
     ·exact h0 n hn
     ·omega
   ·have hi2 : i = l.length := by omega
    rw [hi2, List.take_length] at h0
    have : Aiv l = true := by
     unfold Aiv
     rw [Bool.and_eq_true, List.all_eq_true]
     exact ⟨by simp; omega, fun n hn => by simpa using h0 n hn⟩
    rw [this]
    simp -dsimp (disch := first | assumption | omega) only [↓Ag, Ad, Ai, Ah, eq_self, forall_const, Nat.reduceLT, Nat.reduceEqDiff, Nat.reduceSub, Nat.reduceMul, Nat.reduceMod, Nat.reduceDiv, Nat.reducePow, UInt8.reduceToNat, Int.reduceEq, Int.reduceLT, Int.reduceLE, ↓reduceIte, Nat.reduceAdd, Int.reduceToNat, reduceCtorEq, Nat.reduceLeDiff, ↓KH]
theorem Ab0 (l : List (List UInt8)) (hl : l.length ≤ 1000) : Et Tryd.prog 9 [.sl 20 (l.map idT)] (fun r => r = .sl 20 (l.map idT)) := by
 refine Aq.toPureV (AbJ (by simp) ?_)
 simp -dsimp (disch := first | assumption | omega) only [↓Ag, Ad, Ai, Ah, eq_self, forall_const, Nat.reduceLT, Nat.reduceEqDiff, Nat.reduceSub, Nat.reduceMul, Nat.reduceMod, Nat.reduceDiv, Nat.reducePow, UInt8.reduceToNat, Int.reduceEq, Int.reduceLT, Int.reduceLE, ↓reduceIte, Nat.reduceAdd, Int.reduceToNat, reduceCtorEq, Nat.reduceLeDiff, ↓QK]
 refine BG (fun m e H => ∃ i v : Nat, m = l.length - i ∧ i ≤ l.length ∧ e = [(0, .sl 20 (l.map idT)), (3, .os 20 0 v [] 0 i i), (4, i64 (i : Int))] ∧ H = [.obj v (.arr i 20 ((l.take i).map idT))]) l.length ?_ ?_
 ·exact ⟨0, 0, by simp, by simp, rfl, by simp⟩
 ·rintro m e H ⟨i, v, rfl, hi, rfl, rfl⟩
  by_cases h : i < l.length
  ·have hg : l[i]? = some l[i] := List.getElem?_eq_getElem h
   have hti : (l.take i).length = i := by simp; omega
   have htk : ((l.take i).map idT).take i = (l.take i).map idT := Ec hti.symm
   generalize hr : l.take i = r at *
   simp -dsimp (disch := first | assumption | omega) only [↓Ag, Ad, Ai, Ah, eq_self, forall_const, Nat.reduceLT, Nat.reduceEqDiff, Nat.reduceSub, Nat.reduceMul, Nat.reduceMod, Nat.reduceDiv, Nat.reducePow, UInt8.reduceToNat, Int.reduceEq, Int.reduceLT, Int.reduceLE, ↓reduceIte, Nat.reduceAdd, Int.reduceToNat, reduceCtorEq, Nat.reduceLeDiff, ↓QK, hg, MQ, FQ, Qz, Hm, htk, hti, Ak1, AfT, Ac1]
   refine JP (l.length - (i + 1)) 1 (by omega) (by omega) rfl rfl ⟨i + 1, v + 1, rfl, by omega, rfl, ?_⟩
   rw [List.take_succ_eq_append_getElem h, hr]; rfl
  ·have hi2 : i = l.length := by omega
   subst hi2
   rw [List.take_length]
   have htk : (l.map idT).take l.length = l.map idT := Ec rfl
   simp -dsimp (disch := first | assumption | omega) only [↓Ag, Ad, Ai, Ah, eq_self, forall_const, Nat.reduceLT, Nat.reduceEqDiff, Nat.reduceSub, Nat.reduceMul, Nat.reduceMod, Nat.reduceDiv, Nat.reducePow, UInt8.reduceToNat, Int.reduceEq, Int.reduceLT, Int.reduceLE, ↓reduceIte, Nat.reduceAdd, Int.reduceToNat, reduceCtorEq, Nat.reduceLeDiff, ↓QK, htk]
end Go.Proofs.YtingoaihnlhiaaaDoor


namespace Go.Proofs.YtingoaihnlhiaaaDoor
open Go.RowKit
variable [A7]
set_option linter.unusedSectionVars false
set_option linter.unusedVariables false
set_option autoImplicit false

def AA (l : List Nd) : List (List UInt8) := l.map (·.id)
/-- The parents of an id. -/
def pOf (l : List Nd) (x : List UInt8) : List (List UInt8) := ((l.find? fun n => n.id == x).map (·.ps)).getD []
/-- What some reach. -/
inductive Rc (l : List Nd) (S : List (List UInt8)) : List UInt8 → Prop
 | base {x : List UInt8} : x ∈ S → Rc l S x
 | step {x y : List UInt8} : Rc l S x → y ∈ pOf l x → Rc l S y
/-- Ids differ, and parents are there. -/
structure Aba (l : List Nd) : Prop where
 nodup : (AA l).Nodup
 there : ∀ n ∈ l, ∀ p ∈ n.ps, p ∈ AA l
def Cyc (l : List Nd) : Prop := ∃ n ∈ l, Rc l n.ps n.id
def GOk (l : List Nd) : Prop := Aba l ∧ ¬ Cyc l

theorem JQ {l : List Nd} {n : Nd} (h : n ∈ l) : n.id ∈ AA l := List.mem_map.2 ⟨n, h, rfl⟩
theorem ZA {l : List Nd} (hn : (AA l).Nodup) {n : Nd} (h : n ∈ l) : pOf l n.id = n.ps := by
 unfold pOf
 have : l.find? (fun m => m.id == n.id) = some n := by
  induction l with
  | nil => simp at h
  | cons a l ih =>
   rw [AA, List.map_cons, List.nodup_cons] at hn
   rw [List.find?_cons]
   rcases List.mem_cons.1 h with rfl | h
   ·simp
   ·have hne : a.id ≠ n.id := fun e => hn.1 (e ▸ List.mem_map.2 ⟨n, h, rfl⟩)
    have : (a.id == n.id) = false := by simpa using hne
    rw [this]
    exact ih hn.2 h
 rw [this]; rfl
theorem Abp {l : List Nd} {x y : List UInt8} (h : y ∈ pOf l x) : ∃ n ∈ l, n.id = x ∧ y ∈ n.ps := by
 unfold pOf at h
 cases hf : l.find? (fun m => m.id == x) with
 | none => rw [hf] at h; simp at h
 | some n =>
  rw [hf] at h
  exact ⟨n, List.mem_of_find?_eq_some hf, by have := List.find?_some hf; simpa using this, by simpa using h⟩
theorem Rc.mono {l : List Nd} {S T : List (List UInt8)} (h : ∀ x ∈ S, Rc l T x) {x : List UInt8} (hx : Rc l S x) : Rc l T x := by
 induction hx with
 | base h1 => exact h _ h1
 | step _ h1 ih => exact .step ih h1
theorem Rc.there {l : List Nd} (hv : Aba l) {S : List (List UInt8)} (hS : ∀ x ∈ S, x ∈ AA l) {x : List UInt8} (h : Rc l S x) : x ∈ AA l := by
 cases h with
 | base h => exact hS _ h
 | step h1 h2 => obtain ⟨n, hn, _, hp⟩ := Abp h2; exact hv.there n hn _ hp

/-- Ids one behind the other, each behind all that have it aS a parent. -/
inductive Ord (l : List Nd) : List (List UInt8) → Prop
 | nil : Ord l []
 | snoc {d : List (List UInt8)} {x : List UInt8} : Ord l d → ¬ x ∈ d → x ∈ AA l → (∀ n ∈ l, x ∈ n.ps → n.id ∈ d) → Ord l (d ++ [x])
theorem Ord.kids {l : List Nd} {d : List (List UInt8)} (h : Ord l d) : ∀ {x : List UInt8}, x ∈ d → ∀ n ∈ l, x ∈ n.ps → n.id ∈ d := by
 induction h with
 | nil => intro x hx; simp at hx
 | snoc h1 h2 h3 h4 ih =>
  intro x hx n hn hp
  rcases List.mem_append.1 hx with hx | hx
  ·exact List.mem_append_left _ (ih hx n hn hp)
  ·rw [List.mem_singleton] at hx; subst hx
   exact List.mem_append_left _ (h4 n hn hp)
theorem Ord.nodup {l : List Nd} {d : List (List UInt8)} (h : Ord l d) : d.Nodup := by
 induction h with
 | nil => simp
 | snoc h1 h2 h3 h4 ih =>
  rw [List.nodup_append]
  exact ⟨ih, by simp, fun a ha b hb => by rw [List.mem_singleton] at hb; subst hb; exact fun e => h2 (e ▸ ha)⟩
theorem Ord.sub {l : List Nd} {d : List (List UInt8)} (h : Ord l d) : ∀ x ∈ d, x ∈ AA l := by
 induction h with
 | nil => simp
 | snoc h1 h2 h3 h4 ih =>
  intro x hx
  rcases List.mem_append.1 hx with hx | hx
  ·exact ih x hx
  ·rw [List.mem_singleton] at hx; subst hx; exact h3
theorem Ord.back {l : List Nd} {d : List (List UInt8)} (h : Ord l d) {n : Nd} (hn : n ∈ l) {x : List UInt8} (hr : Rc l n.ps x) : x ∈ d → n.id ∈ d := by
 induction hr with
 | base h1 => exact fun hx => h.kids hx n hn h1
 | step h1 h2 ih =>
  intro hx
  obtain ⟨m, hm, hme, hp⟩ := Abp h2
  exact ih (hme ▸ h.kids hx m hm hp)
theorem Ord.acyc {l : List Nd} {d : List (List UInt8)} (h : Ord l d) : ∀ {n : Nd}, n ∈ l → n.id ∈ d → ¬ Rc l n.ps n.id := by
 induction h with
 | nil => intro n _ h; simp at h
 | snoc h1 h2 h3 h4 ih =>
  intro n hn hx hr
  rcases List.mem_append.1 hx with hx | hx
  ·exact ih hn hx hr
  ·rw [List.mem_singleton] at hx
   apply h2
   rw [← hx]
   cases hr with
   | base h5 => exact h4 n hn (hx ▸ h5)
   | step h5 h6 =>
    obtain ⟨m, hm, hme, hp⟩ := Abp h6
    have hk := h4 m hm (hx ▸ hp)
    rw [hme] at hk
    exact h1.back hn h5 hk
theorem JY {α : Type} [BEq α] [LawfulBEq α] : ∀ {d e : List α}, d.Nodup → (∀ x ∈ d, x ∈ e) → d.length ≤ e.length
 | [], e, _, _ => by simp
 | x :: d, e, h, hs => by
  rw [List.nodup_cons] at h
  have hx : x ∈ e := hs x (by simp)
  have := JY (d := d) (e := e.erase x) h.2 fun y hy => (List.mem_erase_of_ne (fun (q : y = x) => h.1 (q ▸ hy))).2 (hs y (by simp [hy]))
  rw [List.length_erase_of_mem hx] at this
  have := List.length_pos_of_mem hx
  rw [List.length_cons]; omega
theorem AeR {α : Type} [BEq α] [LawfulBEq α] {d e : List α} (h : d.Nodup) (hs : ∀ x ∈ d, x ∈ e) (hl : e.length ≤ d.length) {x : α} (hx : x ∈ e) : x ∈ d := by
 refine Classical.byContradiction fun hd => ?_
 have := JY (d := x :: d) (e := e) (List.nodup_cons.2 ⟨hd, h⟩) fun y hy => by
  rcases List.mem_cons.1 hy with rfl | hy
  ·exact hx
  ·exact hs y hy
 rw [List.length_cons] at this; omega
theorem Ord.le {l : List Nd} {d : List (List UInt8)} (h : Ord l d) : d.length ≤ l.length := by
 have := JY h.nodup h.sub
 rwa [AA, List.length_map] at this

theorem Acd {α : Type} {p q : α → Bool} : ∀ {l : List α}, (∀ x ∈ l, q x = true → p x = true) → (∃ x ∈ l, p x = true ∧ q x = false) → (l.filter q).length < (l.filter p).length
 | [], _, h => by obtain ⟨x, hx, _⟩ := h; simp at hx
 | a :: l, h1, h2 => by
  have hle : ∀ {l : List α}, (∀ x ∈ l, q x = true → p x = true) → (l.filter q).length ≤ (l.filter p).length := by
   intro l
   induction l with
   | nil => intro _; simp
   | cons b l ih =>
    intro h
    have := ih fun x hx => h x (by simp [hx])
    rw [List.filter_cons, List.filter_cons]
    cases hq : q b with
    | false => cases hp : p b <;> simp <;> omega
    | true => rw [h b (by simp) hq]; simp; omega
  rw [List.filter_cons, List.filter_cons]
  obtain ⟨x, hx, hp, hq⟩ := h2
  rcases List.mem_cons.1 hx with rfl | hx
  ·rw [hp, hq]
   have := hle (l := l) fun y hy => h1 y (List.mem_cons_of_mem _ hy)
   simp; omega
  ·have := Acd (l := l) (fun y hy => h1 y (by simp [hy])) ⟨x, hx, hp, hq⟩
   cases hq : q a with
   | false => cases hp : p a <;> simp <;> omega
   | true => rw [h1 a (by simp) hq]; simp; omega
/-- If each of some has a child among them, the graph goes round. -/
theorem AoR {l : List Nd} (hn : (AA l).Nodup) {U : List UInt8 → Prop} (hU : ∀ y, U y → ∃ n ∈ l, U n.id ∧ y ∈ n.ps) {y : List UInt8} (hy : U y) (hyl : y ∈ AA l) : Cyc l := by
 refine Classical.byContradiction fun hc => ?_
 have key : ∀ (k : Nat) (n : Nd), n ∈ l → U n.id → ((AA l).filter fun x => !@decide (Rc l n.ps x) (Classical.propDecidable _)).length ≤ k → False := by
  intro k
  induction k with
  | zero =>
   intro n hnl hu hk
   have h0 := List.length_eq_zero_iff.1 (Nat.le_zero.1 hk)
   have : n.id ∈ ((AA l).filter fun x => !@decide (Rc l n.ps x) (Classical.propDecidable _)) := by
    rw [List.mem_filter]
    refine ⟨JQ hnl, ?_⟩
    rw [Bool.not_eq_true', @decide_eq_false_iff_not _ (Classical.propDecidable _)]
    exact fun h => hc ⟨n, hnl, h⟩
   rw [h0] at this; simp at this
  | succ k ih =>
   intro n hnl hu hk
   obtain ⟨m, hm, hmu, hp⟩ := hU _ hu
   refine ih m hm hmu ?_
   have : ((AA l).filter fun x => !@decide (Rc l m.ps x) (Classical.propDecidable _)).length < ((AA l).filter fun x => !@decide (Rc l n.ps x) (Classical.propDecidable _)).length := by
    apply Acd
    ·intro x _ h
     rw [Bool.not_eq_true', @decide_eq_false_iff_not _ (Classical.propDecidable _)] at h ⊢
     refine fun hr => h (Rc.mono (fun z hz => ?_) hr)
     exact .step (.base hp) (by rw [ZA hn hnl]; exact hz)
    ·refine ⟨n.id, JQ hnl, ?_, ?_⟩
     ·rw [Bool.not_eq_true', @decide_eq_false_iff_not _ (Classical.propDecidable _)]
      exact fun h => hc ⟨n, hnl, h⟩
     ·rw [Bool.not_eq_false', @decide_eq_true_eq _ (Classical.propDecidable _)]
      exact .base hp
   omega
 obtain ⟨n, hnl, rfl⟩ := List.mem_map.1 hyl
 exact key _ n hnl hy (Nat.le_refl _)

/-- How often those that are not done name one aS a parent. -/
def kids (l : List Nd) (d : List (List UInt8)) (x : List UInt8) : Nat := ((l.filter fun n => !d.contains n.id).flatMap (·.ps)).count x
theorem Aic {l : List Nd} {d : List (List UInt8)} {x : List UInt8} (h : kids l d x = 0) : ∀ n ∈ l, x ∈ n.ps → n.id ∈ d := by
 intro n hn hx
 unfold kids at h
 rw [List.count_eq_zero] at h
 refine Classical.byContradiction fun hd => h ?_
 exact List.mem_flatMap.2 ⟨n, List.mem_filter.2 ⟨hn, by simpa using hd⟩, hx⟩
theorem Ajp {l : List Nd} {d : List (List UInt8)} {x : List UInt8} (h : kids l d x ≠ 0) : ∃ n ∈ l, ¬ n.id ∈ d ∧ x ∈ n.ps := by
 unfold kids at h
 have := List.count_pos_iff.1 (Nat.pos_of_ne_zero h)
 obtain ⟨n, hn, hx⟩ := List.mem_flatMap.1 this
 obtain ⟨h1, h2⟩ := List.mem_filter.1 hn
 exact ⟨n, h1, by simpa using h2, hx⟩
theorem Abl {l : List Nd} (hn : (AA l).Nodup) {d : List (List UInt8)} {n : Nd} (hnl : n ∈ l) (hd : ¬ n.id ∈ d) (x : List UInt8) : kids l d x = kids l (d ++ [n.id]) x + n.ps.count x := by
 unfold kids
 induction l with
 | nil => simp at hnl
 | cons a l ih =>
  rw [AA, List.map_cons, List.nodup_cons] at hn
  rw [List.filter_cons, List.filter_cons]
  rcases List.mem_cons.1 hnl with rfl | h
  ·have e1 : (!d.contains n.id) = true := by simpa using hd
   have e2 : (!(d ++ [n.id]).contains n.id) = false := by simp
   rw [e1, e2]
   have e3 : l.filter (fun m => !(d ++ [n.id]).contains m.id) = l.filter fun m => !d.contains m.id := by
    apply List.filter_congr
    intro m hm
    have : m.id ≠ n.id := fun e => hn.1 (e ▸ List.mem_map.2 ⟨m, hm, rfl⟩)
    simp [this]
   rw [e3]
   simp only [if_true, List.flatMap_cons, List.count_append]
   simp; omega
  ·have hne : a.id ≠ n.id := fun e => hn.1 (e ▸ List.mem_map.2 ⟨n, h, rfl⟩)
   have e1 : (!(d ++ [n.id]).contains a.id) = !d.contains a.id := by simp [hne]
   rw [e1]
   have := ih hn.2 h
   cases (!d.contains a.id)
   ·exact this
   ·simp only [if_true, List.flatMap_cons, List.count_append]; omega
/-- How it stands between two nodes that come free: done; free; what is left of each. -/
structure Aek (l : List Nd) (d fr : List (List UInt8)) (f : List UInt8 → Nat) : Prop where
 ord : Ord l d
 nodup : fr.Nodup
 free : ∀ y, y ∈ fr ↔ (y ∈ AA l ∧ ¬ y ∈ d ∧ f y = 0)
 zero : ∀ y ∈ d, f y = 0
theorem Aek.take {l : List Nd} (hv : Aba l) {d fr : List (List UInt8)} {n : Nd} (hnl : n ∈ l) (h : Aek l d (n.id :: fr) (kids l d)) : Aek l (d ++ [n.id]) fr (fun y => kids l (d ++ [n.id]) y + n.ps.count y) := by
 obtain ⟨h1, h2, h3⟩ := (h.free n.id).1 (by simp)
 have hnd := List.nodup_cons.1 h.nodup
 refine ⟨.snoc h.ord h2 h1 (Aic h3), hnd.2, fun y => ?_, fun y hy => ?_⟩
 ·rw [← Abl hv.nodup hnl h2]
  have := h.free y
  constructor
  ·intro hy
   obtain ⟨k1, k2, k3⟩ := this.1 (by simp [hy])
   refine ⟨k1, fun hm => ?_, k3⟩
   rcases List.mem_append.1 hm with hm | hm
   ·exact k2 hm
   ·rw [List.mem_singleton] at hm; subst hm; exact hnd.1 hy
  ·rintro ⟨k1, k2, k3⟩
   have hm := this.2 ⟨k1, fun hm => k2 (by simp [hm]), k3⟩
   rcases List.mem_cons.1 hm with e | hm
   ·exact absurd (by simp [e]) k2
   ·exact hm
 ·show kids l (d ++ [n.id]) y + n.ps.count y = 0
  rw [← Abl hv.nodup hnl h2]
  rcases List.mem_append.1 hy with hy | hy
  ·exact h.zero y hy
  ·rw [List.mem_singleton] at hy; subst hy; exact h3
theorem Aek.congr {l : List Nd} {d fr : List (List UInt8)} {f g : List UInt8 → Nat} (h : Aek l d fr f) (e : ∀ y, g y = f y) : Aek l d fr g := by
 have : g = f := funext e
 rw [this]; exact h
/-- A parent, once. -/
theorem Aek.drop {l : List Nd} {d fr : List (List UInt8)} {f : List UInt8 → Nat} (h : Aek l d fr f) {p : List UInt8} (hp : p ∈ AA l) (hf : f p ≠ 0) : Aek l d (if f p = 1 then fr ++ [p] else fr) (fun y => if p = y then f p - 1 else f y) := by
 have hpd : ¬ p ∈ d := fun hm => hf (h.zero p hm)
 have hpf : ¬ p ∈ fr := fun hm => hf ((h.free p).1 hm).2.2
 refine ⟨h.ord, ?_, fun y => ?_, fun y hy => ?_⟩
 ·split
  ·rw [List.nodup_append]
   exact ⟨h.nodup, by simp, fun a ha b hb => by rw [List.mem_singleton] at hb; subst hb; exact fun e => hpf (e ▸ ha)⟩
  ·exact h.nodup
 ·have := h.free y
  by_cases hy : p = y
  ·subst hy
   simp only [if_true]
   split
   ·rename_i h1; simp [hp, hpd, h1]
   ·rename_i h1
    constructor
    ·exact fun hm => absurd hm hpf
    ·rintro ⟨_, _, h2⟩; omega
  ·simp only [if_neg hy]
   split
   ·rw [← this, List.mem_append, List.mem_singleton]
    exact ⟨fun hm => hm.resolve_right fun e => hy e.symm, Or.inl⟩
   ·exact this
 ·have hne : p ≠ y := fun e => hpd (e ▸ hy)
  show (if p = y then f p - 1 else f y) = 0
  rw [if_neg hne]; exact h.zero y hy
theorem Aek.none {l : List Nd} (hv : Aba l) {d : List (List UInt8)} (h : Aek l d [] (kids l d)) : d.length = l.length ↔ ¬ Cyc l := by
 constructor
 ·rintro he ⟨n, hn, hr⟩
  exact h.ord.acyc hn (AeR h.ord.nodup h.ord.sub (by rw [he, AA, List.length_map]; exact Nat.le_refl _) (JQ hn)) hr
 ·intro hc
  refine Nat.le_antisymm h.ord.le ?_
  have : ∀ y ∈ AA l, y ∈ d := by
   intro y hy
   refine Classical.byContradiction fun hd => hc (AoR hv.nodup (U := fun y => y ∈ AA l ∧ ¬ y ∈ d) ?_ ⟨hy, hd⟩ hy)
   rintro z ⟨hz1, hz2⟩
   obtain ⟨n, hn, h1, h2⟩ := Ajp (l := l) (d := d) (x := z) fun e => by
    have := (h.free z).2 ⟨hz1, hz2, e⟩
    simp at this
   exact ⟨n, hn, ⟨JQ hn, h1⟩, h2⟩
  have := JY hv.nodup this
  rwa [AA, List.length_map] at this
end Go.Proofs.YtingoaihnlhiaaaDoor


namespace Go.Proofs.YtingoaihnlhiaaaDoor
open Go.RowKit
variable [A7]
set_option linter.unusedSectionVars false
set_option linter.unusedVariables false
set_option linter.unusedSimpArgs false

theorem FO {l : List Nd} (hn : (AA l).Nodup) {i : Nat} (h : i < l.length) : fnd l l[i].id = i := by
 refine AlG h (fun k hk e => ?_) rfl
 have h1 : (AA l)[k]? = some l[k].id := by rw [AA, List.getElem?_map, List.getElem?_eq_getElem (by omega)]; rfl
 have h2 : (AA l)[i]? = some l[i].id := by rw [AA, List.getElem?_map, List.getElem?_eq_getElem h]; rfl
 have := (List.getElem?_inj (i := k) (j := i) (by rw [AA, List.length_map]; omega) hn).1 (by rw [h1, h2, e])
 omega
theorem Vz {l : List Nd} {x : List UInt8} (hx : x ∈ AA l) : ∃ i, ∃ h : i < l.length, fnd l x = i ∧ l[i].id = x := by
 obtain ⟨n, hn, rfl⟩ := List.mem_map.1 hx
 have hlt : (l.findIdx fun m => m.id == n.id) < l.length := List.findIdx_lt_length_of_exists ⟨n, hn, by simp⟩
 refine ⟨l.findIdx fun m => m.id == n.id, hlt, ?_, ?_⟩
 ·unfold fnd; rw [if_pos ⟨n, hn, rfl⟩]
 ·have := List.findIdx_getElem (xs := l) (p := fun m => m.id == n.id) (w := hlt)
  simpa using this
theorem AmM {l : List Nd} {x : List UInt8} : fnd l x < 0 ↔ ¬ x ∈ AA l := by
 constructor
 ·intro h hx
  obtain ⟨i, _, e, _⟩ := Vz hx
  omega
 ·intro h
  unfold fnd
  rw [if_neg]
  ·omega
  ·rintro ⟨n, hn, e⟩; exact h (e ▸ JQ hn)

noncomputable def BB (l : List Nd) (S : List (List UInt8)) : List Bool := l.map fun n => @decide (Rc l S n.id) (Classical.propDecidable _)
theorem Gp {l : List Nd} {S : List (List UInt8)} : (BB l S).length = l.length := by simp [BB]
theorem GH {l : List Nd} {S : List (List UInt8)} {i : Nat} (h : i < l.length) : (BB l S)[i]? = some true ↔ Rc l S l[i].id := by
 unfold BB
 rw [List.getElem?_map, List.getElem?_eq_getElem h]
 simp

/-- SX that are right so far. -/
structure SX (l : List Nd) (S : List (List UInt8)) (m : List Bool) : Prop where
 len : m.length = l.length
 sound : ∀ i (h : i < l.length), m[i]? = some true → Rc l S l[i].id
theorem SX.set {l : List Nd} {S : List (List UInt8)} {m : List Bool} (h : SX l S m) {i : Nat} (hi : i < l.length) (hr : Rc l S l[i].id) : SX l S (m.set i true) := by
 refine ⟨by rw [List.length_set, h.len], fun j hj hm => ?_⟩
 rw [List.getElem?_set] at hm
 split at hm
 ·rename_i e; subst e; exact hr
 ·exact h.sound j hj hm
/-- What is marked stays marked. -/
def AiH (m m' : List Bool) : Prop := ∀ i : Nat, m[i]? = some true → m'[i]? = some true
theorem AiH.set {m : List Bool} {i : Nat} (hi : i < m.length) : AiH m (m.set i true) := fun j h => by
 rw [List.getElem?_set]
 split
 ·rename_i e; subst e; simp [hi]
 ·exact h
/-- How many are not marked. -/
def unm (m : List Bool) : Nat := m.count false
theorem Al8 {m : List Bool} {i : Nat} (h : m[i]? = some false) : unm (m.set i true) < unm m := by
 unfold unm
 obtain ⟨hi, he⟩ := List.getElem?_eq_some_iff.1 h
 have e := List.take_append_drop i m
 have hd : m.drop i = m[i] :: m.drop (i + 1) := List.drop_eq_getElem_cons hi
 have hs : m.set i true = m.take i ++ true :: m.drop (i + 1) := List.set_eq_take_append_cons_drop.trans (by rw [if_pos hi])
 have h1 : List.count false m = List.count false (m.take i) + List.count false (m[i] :: m.drop (i + 1)) := by rw [← List.count_append, ← hd, e]
 rw [hs, List.count_append, h1, he]
 simp
theorem Afc {l : List Nd} (hv : Aba l) {S : List (List UInt8)} {m : List Bool} (h : SX l S m) (hb : ∀ x ∈ S, ∀ i (hi : i < l.length), l[i].id = x → m[i]? = some true)
  (hc : ∀ i (hi : i < l.length), m[i]? = some true → ∀ p ∈ l[i].ps, ∀ j (hj : j < l.length), l[j].id = p → m[j]? = some true) : m = BB l S := by
 have comp : ∀ x, Rc l S x → ∀ i (hi : i < l.length), l[i].id = x → m[i]? = some true := by
  intro x hx
  induction hx with
  | base hx => exact hb _ hx
  | step _ h2 ih =>
   intro j hj hje
   obtain ⟨n, hn, hne, hp⟩ := Abp h2
   obtain ⟨i, hi, rfl⟩ := List.mem_iff_getElem.1 hn
   exact hc i hi (ih i hi hne) _ hp j hj hje
 apply List.ext_getElem?
 intro i
 by_cases hi : i < l.length
 ·have h1 : m[i]? = some true ↔ (BB l S)[i]? = some true := by
   rw [GH hi]
   exact ⟨h.sound i hi, fun hr => comp _ hr i hi rfl⟩
  have hm : m[i]? = some (m[i]'(by rw [h.len]; exact hi)) := List.getElem?_eq_getElem _
  have hr : (BB l S)[i]? = some ((BB l S)[i]'(by rw [Gp]; exact hi)) := List.getElem?_eq_getElem _
  rw [hm, hr] at h1 ⊢
  simp only [Option.some.injEq] at h1 ⊢
  exact Bool.eq_iff_iff.2 h1
 ·rw [List.getElem?_eq_none (by rw [h.len]; omega), List.getElem?_eq_none (by rw [Gp]; omega)]
theorem Air {m : List Bool} {j : Nat} {b : Bool} (h : m[j]? = some b) (hb : b ≠ true) : m[j]? = some false := by rw [h]; cases b <;> simp_all
theorem PL {l : List UInt8} : BU (idT l) = false := by rw [AZ]; rfl

theorem AlB (l : List Nd) (S : List (List UInt8)) (hv : Aba l) (hl : l.length ≤ 1000) (hS : ∀ x ∈ S, x ∈ AA l) (hp : ∀ n ∈ l, n.ps.length ≤ 100000) (hs : S.length ≤ 100000) : Aq Tryd.prog 29 [.sl 22 (l.map ndT), .sl 20 (S.map idT)] [] (fun x H' => x = .os 1 0 0 [] 0 l.length l.length ∧ H' = [.obj 0 (.arr l.length 1 ((BB l S).map tb))]) := by
 refine Aa8 (by simp) ?_
 simp -dsimp (disch := first | assumption | omega) only [↓Ag, Ad, Ai, Ah, eq_self, forall_const, Nat.reduceLT, Nat.reduceEqDiff, Nat.reduceSub, Nat.reduceMul, Nat.reduceMod, Nat.reduceDiv, Nat.reducePow, UInt8.reduceToNat, Int.reduceEq, Int.reduceLT, Int.reduceLE, ↓reduceIte, Nat.reduceAdd, Int.reduceToNat, reduceCtorEq, Nat.reduceLeDiff, ↓Bv]
 refine BG (fun q e H => ∃ (i : Nat) (m : List Bool), q = S.length - i ∧ i ≤ S.length ∧ SX l S m ∧ (∀ x ∈ S.take i, ∀ j (hj : j < l.length), l[j].id = x → m[j]? = some true) ∧ e = [(0, .sl 22 (l.map ndT)), (1, .sl 20 (S.map idT)), (5, .os 1 0 0 [] 0 l.length l.length), (6, i64 (i : Int))] ∧ H = [.obj 0 (.arr l.length 1 (m.map tb))]) S.length ?_ ?_
 ·exact ⟨0, List.replicate l.length false, by simp, by simp, ⟨by simp, fun i h hm => by simp [List.getElem?_replicate] at hm⟩, by simp, rfl, by simp [tb]⟩
 ·rintro q e H ⟨i, m, rfl, hi, hm, hb, rfl, rfl⟩
  by_cases h : i < S.length
  ·have hg : S[i]? = some S[i] := List.getElem?_eq_getElem h
   have hsucc := List.take_succ_eq_append_getElem h
   obtain ⟨j, hj, hjf, hje⟩ := Vz (hS S[i] (List.getElem_mem h))
   have hRc : Rc l S l[j].id := hje ▸ .base (List.getElem_mem h)
   generalize S[i] = x at *
   simp -dsimp (disch := first | assumption | omega) only [↓Ag, Ad, Ai, Ah, eq_self, forall_const, Nat.reduceLT, Nat.reduceEqDiff, Nat.reduceSub, Nat.reduceMul, Nat.reduceMod, Nat.reduceDiv, Nat.reducePow, UInt8.reduceToNat, Int.reduceEq, Int.reduceLT, Int.reduceLE, ↓reduceIte, Nat.reduceAdd, Int.reduceToNat, reduceCtorEq, Nat.reduceLeDiff, ↓Bv, hg, MQ, FQ, PL]
   refine (Acj l x (by omega)).calls rfl ?_
   rintro r rfl
   rw [hjf]
   have hml : j < m.length := by rw [hm.len]; exact hj
   have hmj : m[j]? = some m[j] := List.getElem?_eq_getElem hml
   simp -dsimp (disch := first | assumption | omega) only [↓Ag, Ad, Ai, Ah, eq_self, forall_const, Nat.reduceLT, Nat.reduceEqDiff, Nat.reduceSub, Nat.reduceMul, Nat.reduceMod, Nat.reduceDiv, Nat.reducePow, UInt8.reduceToNat, Int.reduceEq, Int.reduceLT, Int.reduceLE, ↓reduceIte, Nat.reduceAdd, Int.reduceToNat, reduceCtorEq, Nat.reduceLeDiff, ↓Bv, hmj]
   refine Az (S.length - (i + 1)) (by omega) (by simp) ⟨i + 1, m.set j true, rfl, by omega, hm.set hj hRc, fun y hy k hk hke => ?_, rfl, ?_⟩
   ·rw [hsucc, List.mem_append, List.mem_singleton] at hy
    rcases hy with hy | rfl
    ·exact AiH.set hml k (hb y hy k hk hke)
    ·have h1 := FO hv.nodup hk
     have h2 := FO hv.nodup hj
     rw [hke] at h1; rw [hje, h1] at h2
     have h3 : k = j := by omega
     subst h3
     rw [List.getElem?_set_self hml]
   ·simp [tb]
  ·have hi2 : i = S.length := by omega
   rw [hi2, List.take_length] at hb
   clear hi2 hi
   simp -dsimp (disch := first | assumption | omega) only [↓Ag, Ad, Ai, Ah, eq_self, forall_const, Nat.reduceLT, Nat.reduceEqDiff, Nat.reduceSub, Nat.reduceMul, Nat.reduceMod, Nat.reduceDiv, Nat.reducePow, UInt8.reduceToNat, Int.reduceEq, Int.reduceLT, Int.reduceLE, ↓reduceIte, Nat.reduceAdd, Int.reduceToNat, reduceCtorEq, Nat.reduceLeDiff, ↓Bv]
   -- again and again
   refine BG (fun q e H => ∃ (again : Bool) (m : List Bool), q = unm m + (if again then 1 else 0) ∧ SX l S m ∧ (∀ x ∈ S, ∀ j (hj : j < l.length), l[j].id = x → m[j]? = some true) ∧
    (again = false → ∀ i (hi : i < l.length), m[i]? = some true → ∀ p ∈ l[i].ps, ∀ j (hj : j < l.length), l[j].id = p → m[j]? = some true) ∧
    e = [(0, .sl 22 (l.map ndT)), (5, .os 1 0 0 [] 0 l.length l.length), (8, tb again)] ∧ H = [.obj 0 (.arr l.length 1 (m.map tb))]) (unm m + 1) ?_ ?_
   ·exact ⟨true, m, rfl, hm, hb, by simp, rfl, rfl⟩
   ·clear hb hm
    rintro q e H ⟨again, m, rfl, hm, hb, hc, rfl, rfl⟩
    cases again with
    | false =>
     simp -dsimp (disch := first | assumption | omega) only [↓Ag, Ad, Ai, Ah, eq_self, forall_const, Nat.reduceLT, Nat.reduceEqDiff, Nat.reduceSub, Nat.reduceMul, Nat.reduceMod, Nat.reduceDiv, Nat.reducePow, UInt8.reduceToNat, Int.reduceEq, Int.reduceLT, Int.reduceLE, ↓reduceIte, Nat.reduceAdd, Int.reduceToNat, reduceCtorEq, Nat.reduceLeDiff, ↓Bv]
     rw [Afc hv hm hb (hc rfl)]
    | true =>
     clear hc
     simp -dsimp (disch := first | assumption | omega) only [↓Ag, Ad, Ai, Ah, eq_self, forall_const, Nat.reduceLT, Nat.reduceEqDiff, Nat.reduceSub, Nat.reduceMul, Nat.reduceMod, Nat.reduceDiv, Nat.reducePow, UInt8.reduceToNat, Int.reduceEq, Int.reduceLT, Int.reduceLE, ↓reduceIte, Nat.reduceAdd, Int.reduceToNat, reduceCtorEq, Nat.reduceLeDiff, ↓Bv]
     -- a pass
     refine BG (fun q e H => ∃ (i : Nat) (again : Bool) (m' : List Bool), q = l.length - i ∧ i ≤ l.length ∧ SX l S m' ∧ (∀ x ∈ S, ∀ j (hj : j < l.length), l[j].id = x → m'[j]? = some true) ∧ unm m' + (if again then 1 else 0) ≤ unm m ∧
      (again = false → ∀ k (hk : k < l.length), k < i → m'[k]? = some true → ∀ p ∈ l[k].ps, ∀ j (hj : j < l.length), l[j].id = p → m'[j]? = some true) ∧
      e = [(0, .sl 22 (l.map ndT)), (5, .os 1 0 0 [] 0 l.length l.length), (8, tb again), (9, i64 (i : Int))] ∧ H = [.obj 0 (.arr l.length 1 (m'.map tb))]) l.length ?_ ?_
     ·exact ⟨0, false, m, by simp, by simp, hm, hb, by simp, fun _ k _ hk => by omega, rfl, rfl⟩
     ·clear hb hm
      rintro q e H ⟨i, again, m', rfl, hi, hm, hb, hu, hc, rfl, rfl⟩
      by_cases h : i < l.length
      ·have hg : l[i]? = some l[i] := List.getElem?_eq_getElem h
       have hpi := hp l[i] (List.getElem_mem h)
       simp -dsimp (disch := first | assumption | omega) only [↓Ag, Ad, Ai, Ah, eq_self, forall_const, Nat.reduceLT, Nat.reduceEqDiff, Nat.reduceSub, Nat.reduceMul, Nat.reduceMod, Nat.reduceDiv, Nat.reducePow, UInt8.reduceToNat, Int.reduceEq, Int.reduceLT, Int.reduceLE, ↓reduceIte, Nat.reduceAdd, Int.reduceToNat, reduceCtorEq, Nat.reduceLeDiff, ↓Bv]
       -- the parents
       refine BG (fun q e H => ∃ (k : Nat) (again : Bool) (m' : List Bool), q = l[i].ps.length - k ∧ k ≤ l[i].ps.length ∧ SX l S m' ∧ (∀ x ∈ S, ∀ j (hj : j < l.length), l[j].id = x → m'[j]? = some true) ∧ unm m' + (if again then 1 else 0) ≤ unm m ∧
        (again = false → ∀ k (hk : k < l.length), k < i → m'[k]? = some true → ∀ p ∈ l[k].ps, ∀ j (hj : j < l.length), l[j].id = p → m'[j]? = some true) ∧
        (again = false → m'[i]? = some true → ∀ p ∈ l[i].ps.take k, ∀ j (hj : j < l.length), l[j].id = p → m'[j]? = some true) ∧
        e = [(0, .sl 22 (l.map ndT)), (5, .os 1 0 0 [] 0 l.length l.length), (8, tb again), (9, i64 (i : Int)), (10, i64 (k : Int))] ∧ H = [.obj 0 (.arr l.length 1 (m'.map tb))]) l[i].ps.length ?_ ?_
       ·exact ⟨0, again, m', by simp, by simp, hm, hb, hu, hc, by simp, rfl, rfl⟩
       ·clear hb hm hu hc
        rintro q e H ⟨k, again, m', rfl, hk, hm, hb, hu, hc, hd, rfl, rfl⟩
        have hml : i < m'.length := by rw [hm.len]; exact h
        have hmi : m'[i]? = some m'[i] := List.getElem?_eq_getElem hml
        by_cases h2 : k < l[i].ps.length ∧ m'[i] = true
        ·obtain ⟨h2, h3⟩ := h2
         rw [h3] at hmi
         have hg2 : l[i].ps[k]? = some l[i].ps[k] := List.getElem?_eq_getElem h2
         have hsucc := List.take_succ_eq_append_getElem h2
         obtain ⟨j, hj, hjf, hje⟩ := Vz (hv.there l[i] (List.getElem_mem h) l[i].ps[k] (List.getElem_mem h2))
         have hRc : Rc l S l[j].id := by
          rw [hje]
          exact .step (hm.sound i h hmi) (by rw [ZA hv.nodup (List.getElem_mem h)]; exact List.getElem_mem h2)
         have hjl : j < m'.length := by rw [hm.len]; exact hj
         have hmj : m'[j]? = some m'[j] := List.getElem?_eq_getElem hjl
         have huniq : ∀ j' (hj' : j' < l.length), l[j'].id = l[i].ps[k] → j' = j := fun j' hj' e => by
          have h1 := FO hv.nodup hj'
          have h2 := FO hv.nodup hj
          rw [e] at h1; rw [hje, h1] at h2; omega
         generalize hx : l[i].ps[k] = x at *
         generalize hn : l[i] = n at *
         simp -dsimp (disch := first | assumption | omega) only [↓Ag, Ad, Ai, Ah, eq_self, forall_const, Nat.reduceLT, Nat.reduceEqDiff, Nat.reduceSub, Nat.reduceMul, Nat.reduceMod, Nat.reduceDiv, Nat.reducePow, UInt8.reduceToNat, Int.reduceEq, Int.reduceLT, Int.reduceLE, ↓reduceIte, Nat.reduceAdd, Int.reduceToNat, reduceCtorEq, Nat.reduceLeDiff, ↓Bv, hg, hg2, hmi, AP, MQ, FQ, PL]
         refine (Acj l x (by omega)).calls rfl ?_
         rintro r rfl
         rw [hjf]
         cases hb2 : m'[j] with
         | true =>
          rw [hb2] at hmj
          simp -dsimp (disch := first | assumption | omega) only [↓Ag, Ad, Ai, Ah, eq_self, forall_const, Nat.reduceLT, Nat.reduceEqDiff, Nat.reduceSub, Nat.reduceMul, Nat.reduceMod, Nat.reduceDiv, Nat.reducePow, UInt8.reduceToNat, Int.reduceEq, Int.reduceLT, Int.reduceLE, ↓reduceIte, Nat.reduceAdd, Int.reduceToNat, reduceCtorEq, Nat.reduceLeDiff, ↓Bv, hmj]
          refine Az (n.ps.length - (k + 1)) (by omega) (by simp) ⟨k + 1, again, m', rfl, by omega, hm, hb, hu, hc, fun ha hm2 p hp' j' hj' hje' => ?_, rfl, rfl⟩
          rw [hsucc, List.mem_append, List.mem_singleton] at hp'
          rcases hp' with hp' | rfl
          ·exact hd ha hm2 p hp' j' hj' hje'
          ·rw [huniq j' hj' hje']; exact hmj
         | false =>
          rw [hb2] at hmj
          have hlt := Al8 hmj
          simp -dsimp (disch := first | assumption | omega) only [↓Ag, Ad, Ai, Ah, eq_self, forall_const, Nat.reduceLT, Nat.reduceEqDiff, Nat.reduceSub, Nat.reduceMul, Nat.reduceMod, Nat.reduceDiv, Nat.reducePow, UInt8.reduceToNat, Int.reduceEq, Int.reduceLT, Int.reduceLE, ↓reduceIte, Nat.reduceAdd, Int.reduceToNat, reduceCtorEq, Nat.reduceLeDiff, ↓Bv, hmj]
          refine Az (n.ps.length - (k + 1)) (by omega) (by simp) ⟨k + 1, true, m'.set j true, rfl, by omega, hm.set hj hRc, fun y hy k' hk' hke' => AiH.set hjl k' (hb y hy k' hk' hke'), ?_, by simp, by simp, rfl, by simp [tb]⟩
          simp only [if_true]
          split at hu <;> omega
        ·have hdone : again = false → m'[i]? = some true → ∀ p ∈ l[i].ps, ∀ j (hj : j < l.length), l[j].id = p → m'[j]? = some true := fun ha hm2 => by
          have h3 : m'[i] = true := by rw [hm2] at hmi; simpa using hmi.symm
          have h4 : k = l[i].ps.length := by
           refine Classical.byContradiction fun hne => h2 ⟨by omega, h3⟩
          have := hd ha hm2
          rwa [h4, List.take_length] at this
         have hfin : ∃ (i' : Nat) (again' : Bool) (m2 : List Bool), l.length - (i + 1) = l.length - i' ∧ i' ≤ l.length ∧ SX l S m2 ∧ (∀ x ∈ S, ∀ j (hj : j < l.length), l[j].id = x → m2[j]? = some true) ∧ unm m2 + (if again' then 1 else 0) ≤ unm m ∧
           (again' = false → ∀ k (hk : k < l.length), k < i' → m2[k]? = some true → ∀ p ∈ l[k].ps, ∀ j (hj : j < l.length), l[j].id = p → m2[j]? = some true) ∧
           [((0 : Nat), TV.sl 22 (l.map ndT)), (5, .os 1 0 0 [] 0 l.length l.length), (8, tb again), (9, i64 ((i + 1 : Nat) : Int))] = [(0, .sl 22 (l.map ndT)), (5, .os 1 0 0 [] 0 l.length l.length), (8, tb again'), (9, i64 (i' : Int))] ∧ [Ob.obj 0 (.arr l.length 1 (m'.map tb))] = [.obj 0 (.arr l.length 1 (m2.map tb))] := by
          refine ⟨i + 1, again, m', rfl, by omega, hm, hb, hu, fun ha k' hk' hki hm2 => ?_, rfl, rfl⟩
          by_cases e : k' = i
          ·subst e; exact hdone ha hm2
          ·exact hc ha k' hk' (by omega) hm2
         clear hdone hd
         by_cases h3 : k < l[i].ps.length
         ·have h4 : m'[i] = false := by
           cases hb4 : m'[i] with
           | false => rfl
           | true => exact absurd ⟨h3, hb4⟩ h2
          rw [h4] at hmi
          simp -dsimp (disch := first | assumption | omega) only [↓Ag, Ad, Ai, Ah, eq_self, forall_const, Nat.reduceLT, Nat.reduceEqDiff, Nat.reduceSub, Nat.reduceMul, Nat.reduceMod, Nat.reduceDiv, Nat.reducePow, UInt8.reduceToNat, Int.reduceEq, Int.reduceLT, Int.reduceLE, ↓reduceIte, Nat.reduceAdd, Int.reduceToNat, reduceCtorEq, Nat.reduceLeDiff, ↓Bv, hg, hmi, AP]
          exact Az (l.length - (i + 1)) (by omega) (by simp) hfin
         ·simp -dsimp (disch := first | assumption | omega) only [↓Ag, Ad, Ai, Ah, eq_self, forall_const, Nat.reduceLT, Nat.reduceEqDiff, Nat.reduceSub, Nat.reduceMul, Nat.reduceMod, Nat.reduceDiv, Nat.reducePow, UInt8.reduceToNat, Int.reduceEq, Int.reduceLT, Int.reduceLE, ↓reduceIte, Nat.reduceAdd, Int.reduceToNat, reduceCtorEq, Nat.reduceLeDiff, ↓Bv, hg, AP]
          exact Az (l.length - (i + 1)) (by omega) (by simp) hfin
      ·have hi2 : i = l.length := by omega
       simp -dsimp (disch := first | assumption | omega) only [↓Ag, Ad, Ai, Ah, eq_self, forall_const, Nat.reduceLT, Nat.reduceEqDiff, Nat.reduceSub, Nat.reduceMul, Nat.reduceMod, Nat.reduceDiv, Nat.reducePow, UInt8.reduceToNat, Int.reduceEq, Int.reduceLT, Int.reduceLE, ↓reduceIte, Nat.reduceAdd, Int.reduceToNat, reduceCtorEq, Nat.reduceLeDiff, ↓Bv]
       refine Az (unm m' + (if again then 1 else 0)) (by omega) (by simp) ⟨again, m', rfl, hm, hb, fun ha k hk => hc ha k hk (by omega), rfl, rfl⟩
theorem Ahd (l : List Nd) (S : List (List UInt8)) (hv : Aba l) (hl : l.length ≤ 1000) (hS : ∀ x ∈ S, x ∈ AA l) (hp : ∀ n ∈ l, n.ps.length ≤ 100000) (hs : S.length ≤ 100000) : Et Tryd.prog 29 [.sl 22 (l.map ndT), .sl 20 (S.map idT)] (fun r => r = .sl 1 ((BB l S).map tb)) := by
 have hlen : (BB l S).length = l.length := Gp
 have htk : (BB l S).take l.length = BB l S := List.take_of_length_le (by omega)
 refine Aq.toPureV ((AlB l S hv hl hS hp hs).mono ?_)
 rintro x H' ⟨rfl, rfl⟩
 simp -dsimp (disch := first | assumption | omega) only [↓Ag, Ad, Ai, Ah, eq_self, forall_const, Nat.reduceLT, Nat.reduceEqDiff, Nat.reduceSub, Nat.reduceMul, Nat.reduceMod, Nat.reduceDiv, Nat.reducePow, UInt8.reduceToNat, Int.reduceEq, Int.reduceLT, Int.reduceLE, ↓reduceIte, Nat.reduceAdd, Int.reduceToNat, reduceCtorEq, Nat.reduceLeDiff, htk]
end Go.Proofs.YtingoaihnlhiaaaDoor


namespace Go.Proofs.YtingoaihnlhiaaaDoor
open Go.RowKit
variable [A7]
set_option linter.unusedSectionVars false
set_option linter.unusedVariables false
set_option autoImplicit false

theorem Rc.trans {l : List Nd} {S : List (List UInt8)} {x y : List UInt8} (h : Rc l S x) (k : Rc l [x] y) : Rc l S y := Rc.mono (fun z hz => by rw [List.mem_singleton.1 hz]; exact h) k
/-- What is reached is reached from one of them. -/
theorem Rc.one {l : List Nd} {S : List (List UInt8)} {x : List UInt8} (h : Rc l S x) : ∃ s ∈ S, Rc l [s] x := by
 induction h with
 | base h1 => exact ⟨_, h1, .base (by simp)⟩
 | step h1 h2 ih => obtain ⟨s, hs, hr⟩ := ih; exact ⟨s, hs, .step hr h2⟩

/-- A SEARCH: what was seen, and what is still to be seen. -/
structure Yy (l : List Nd) (S seen todo : List (List UInt8)) : Prop where
 hseen : ∀ x ∈ seen, Rc l S x
 htodo : ∀ x ∈ todo, Rc l S x
 all : ∀ x ∈ S, x ∈ seen ∨ x ∈ todo
 next : ∀ x ∈ seen, ∀ y ∈ pOf l x, y ∈ seen ∨ y ∈ todo
 nodup : seen.Nodup
theorem Yy.start {l : List Nd} {S : List (List UInt8)} : Yy l S [] S := ⟨by simp, fun x h => .base h, fun x h => .inr h, by simp, List.nodup_nil⟩
theorem Yy.skip {l : List Nd} {S seen todo : List (List UInt8)} {x : List UInt8} (h : Yy l S seen (todo ++ [x])) (hx : x ∈ seen) : Yy l S seen todo :=
 ⟨h.hseen, fun y hy => h.htodo y (List.mem_append_left _ hy), fun y hy => by
  rcases h.all y hy with k | k
  ·exact .inl k
  ·rcases List.mem_append.1 k with k | k
   ·exact .inr k
   ·rw [List.mem_singleton.1 k]; exact .inl hx, fun z hz y hy => by
  rcases h.next z hz y hy with k | k
  ·exact .inl k
  ·rcases List.mem_append.1 k with k | k
   ·exact .inr k
   ·rw [List.mem_singleton.1 k]; exact .inl hx, h.nodup⟩
theorem Yy.take {l : List Nd} {S seen todo : List (List UInt8)} {x : List UInt8} (h : Yy l S seen (todo ++ [x])) (hx : ¬ x ∈ seen) : Yy l S (seen ++ [x]) (todo ++ pOf l x) :=
 ⟨fun y hy => by
  rcases List.mem_append.1 hy with k | k
  ·exact h.hseen y k
  ·rw [List.mem_singleton.1 k]; exact h.htodo x (by simp), fun y hy => by
  rcases List.mem_append.1 hy with k | k
  ·exact h.htodo y (List.mem_append_left _ k)
  ·exact .step (h.htodo x (by simp)) k, fun y hy => by
  rcases h.all y hy with k | k
  ·exact .inl (List.mem_append_left _ k)
  ·rcases List.mem_append.1 k with k | k
   ·exact .inr (List.mem_append_left _ k)
   ·exact .inl (List.mem_append_right _ k), fun z hz y hy => by
  rcases List.mem_append.1 hz with hz | hz
  ·rcases h.next z hz y hy with k | k
   ·exact .inl (List.mem_append_left _ k)
   ·rcases List.mem_append.1 k with k | k
    ·exact .inr (List.mem_append_left _ k)
    ·exact .inl (List.mem_append_right _ k)
  ·rw [List.mem_singleton.1 hz] at hy
   exact .inr (List.mem_append_right _ hy), by
  rw [List.nodup_append]
  exact ⟨h.nodup, by simp, fun a ha b hb e => by rw [List.mem_singleton] at hb; subst hb; subst e; exact hx ha⟩⟩
theorem Yy.done {l : List Nd} {S seen : List (List UInt8)} (h : Yy l S seen []) (x : List UInt8) : x ∈ seen ↔ Rc l S x := by
 constructor
 ·exact h.hseen x
 ·intro k
  induction k with
  | base h1 => exact (h.all _ h1).resolve_right (by simp)
  | step h1 h2 ih => exact (h.next _ ih _ h2).resolve_right (by simp)
/-- How long it may go on: what may still be laid up. -/
def Yy.left (l : List Nd) (seen todo : List (List UInt8)) : Nat := todo.length + ((l.filter fun n => !seen.contains n.id).map fun n => n.ps.length + 1).sum
theorem Yy.le {l : List Nd} (hn : (AA l).Nodup) {seen todo : List (List UInt8)} {n : Nd} (hnl : n ∈ l) (hx : ¬ n.id ∈ seen) : Yy.left l (seen ++ [n.id]) (todo ++ n.ps) < Yy.left l seen (todo ++ [n.id]) := by
 unfold Yy.left
 simp only [List.length_append, List.length_singleton]
 have key : ∀ (m : List Nd), (AA m).Nodup → n ∈ m → ((m.filter fun q => !(seen ++ [n.id]).contains q.id).map fun q => q.ps.length + 1).sum + (n.ps.length + 1) = ((m.filter fun q => !seen.contains q.id).map fun q => q.ps.length + 1).sum := by
  intro m
  induction m with
  | nil => intro _ h; cases h
  | cons a m ih =>
   intro hnd hm
   rw [AA, List.map_cons, List.nodup_cons] at hnd
   rcases List.mem_cons.1 hm with rfl | hm
   ·have e1 : (!(seen ++ [n.id]).contains n.id) = false := by simp
    have e2 : (!seen.contains n.id) = true := by simpa using hx
    rw [List.filter_cons_of_neg (by rw [e1]; simp), List.filter_cons_of_pos (by rw [e2])]
    rw [List.map_cons, List.sum_cons]
    have e3 : (m.filter fun q => !(seen ++ [n.id]).contains q.id) = m.filter fun q => !seen.contains q.id := by
     refine List.filter_congr fun q hq => ?_
     have hne : q.id ≠ n.id := fun e => hnd.1 (e ▸ List.mem_map.2 ⟨q, hq, rfl⟩)
     simp [hne]
    rw [e3]; omega
   ·have hne : a.id ≠ n.id := fun e => hnd.1 (e ▸ List.mem_map.2 ⟨n, hm, rfl⟩)
    have ih' := ih hnd.2 hm
    by_cases ha : a.id ∈ seen
    ·rw [List.filter_cons_of_neg (by simp [ha]), List.filter_cons_of_neg (by simp [ha])]
     exact ih'
    ·rw [List.filter_cons_of_pos (by simp [ha, hne]), List.filter_cons_of_pos (by simp [ha]), List.map_cons, List.map_cons, List.sum_cons, List.sum_cons]
     omega
 have := key l hn hnl
 omega
end Go.Proofs.YtingoaihnlhiaaaDoor


namespace Go.Proofs.YtingoaihnlhiaaaDoor
open Go.RowKit
variable [A7]
set_option linter.unusedSectionVars false
set_option linter.unusedVariables false
set_option linter.unusedSimpArgs false

noncomputable def Aqg (l : List Nd) : Nat := @ite _ (GOk l) (Classical.propDecidable _) 0 80
theorem Adt {l : List Nd} (h : GOk l) : Aqg l = 0 := by unfold Aqg; rw [if_pos h]
theorem Zj {l : List Nd} (h : ¬ GOk l) : Aqg l = 80 := by unfold Aqg; rw [if_neg h]
/-- Each is the first one of its id. -/
theorem AbL {l : List Nd} (h : ∀ i (hi : i < l.length), fnd l l[i].id = i) : (AA l).Nodup := by
 rw [List.nodup_iff_pairwise_ne, List.pairwise_iff_getElem]
 intro i j hi hj hij e
 rw [AA, List.length_map] at hi hj
 simp only [AA, List.getElem_map] at e
 have h1 := h i hi
 have h2 := h j hj
 rw [e, h2] at h1
 omega
theorem AlE (l : List Nd) (hl : l.length ≤ 1000) (hp : ∀ n ∈ l, n.ps.length ≤ 1000) : Et Tryd.prog 27 [.sl 22 (l.map ndT)] (fun r => r = i64 ((Aqg l : Nat) : Int)) := by
 refine Aq.toPureV (Abd (by simp) ?_)
 simp -dsimp (disch := first | assumption | omega) only [↓Ag, Ad, Ai, Ah, eq_self, forall_const, Nat.reduceLT, Nat.reduceEqDiff, Nat.reduceSub, Nat.reduceMul, Nat.reduceMod, Nat.reduceDiv, Nat.reducePow, UInt8.reduceToNat, Int.reduceEq, Int.reduceLT, Int.reduceLE, ↓reduceIte, Nat.reduceAdd, Int.reduceToNat, reduceCtorEq, Nat.reduceLeDiff, ↓Bq]
 refine BG (fun q e H => ∃ i : Nat, q = l.length - i ∧ i ≤ l.length ∧ (∀ k (hk : k < l.length), k < i → fnd l l[k].id = k ∧ ∀ p ∈ l[k].ps, p ∈ AA l) ∧ e = [(0, .sl 22 (l.map ndT)), (3, i64 (i : Int))] ∧ H = []) l.length ?_ ?_
 ·exact ⟨0, by simp, by simp, fun k _ hk => by omega, rfl, rfl⟩
 ·rintro q e H ⟨i, rfl, hi, h0, rfl, rfl⟩
  by_cases h : i < l.length
  ·have hg : l[i]? = some l[i] := List.getElem?_eq_getElem h
   have hpi := hp l[i] (List.getElem_mem h)
   simp -dsimp (disch := first | assumption | omega) only [↓Ag, Ad, Ai, Ah, eq_self, forall_const, Nat.reduceLT, Nat.reduceEqDiff, Nat.reduceSub, Nat.reduceMul, Nat.reduceMod, Nat.reduceDiv, Nat.reducePow, UInt8.reduceToNat, Int.reduceEq, Int.reduceLT, Int.reduceLE, ↓reduceIte, Nat.reduceAdd, Int.reduceToNat, reduceCtorEq, Nat.reduceLeDiff, ↓Bq, hg, AP]
   refine (Acj l l[i].id (by omega)).calls rfl ?_
   rintro r rfl
   obtain ⟨j, hj, hjf, hje⟩ := Vz (JQ (List.getElem_mem h))
   by_cases hji : j = i
   ·subst hji
    generalize hn : l[j] = n at *
    rw [hjf]
    simp -dsimp (disch := first | assumption | omega) only [↓Ag, Ad, Ai, Ah, eq_self, forall_const, Nat.reduceLT, Nat.reduceEqDiff, Nat.reduceSub, Nat.reduceMul, Nat.reduceMod, Nat.reduceDiv, Nat.reducePow, UInt8.reduceToNat, Int.reduceEq, Int.reduceLT, Int.reduceLE, ↓reduceIte, Nat.reduceAdd, Int.reduceToNat, reduceCtorEq, Nat.reduceLeDiff, ↓Bq, hg, AP]
    refine BG (fun q e H => ∃ k : Nat, q = n.ps.length - k ∧ k ≤ n.ps.length ∧ (∀ p ∈ n.ps.take k, p ∈ AA l) ∧ e = [(0, .sl 22 (l.map ndT)), (3, i64 (j : Int)), (4, i64 (k : Int))] ∧ H = []) n.ps.length ?_ ?_
    ·exact ⟨0, by simp, by simp, by simp, rfl, rfl⟩
    ·rintro q e H ⟨k, rfl, hk, h1, rfl, rfl⟩
     by_cases h2 : k < n.ps.length
     ·have hg2 : n.ps[k]? = some n.ps[k] := List.getElem?_eq_getElem h2
      have hsucc := List.take_succ_eq_append_getElem h2
      have hmem := List.getElem_mem h2
      have hneg := AmM (l := l) (x := n.ps[k])
      generalize n.ps[k] = x at *
      simp -dsimp (disch := first | assumption | omega) only [↓Ag, Ad, Ai, Ah, eq_self, forall_const, Nat.reduceLT, Nat.reduceEqDiff, Nat.reduceSub, Nat.reduceMul, Nat.reduceMod, Nat.reduceDiv, Nat.reducePow, UInt8.reduceToNat, Int.reduceEq, Int.reduceLT, Int.reduceLE, ↓reduceIte, Nat.reduceAdd, Int.reduceToNat, reduceCtorEq, Nat.reduceLeDiff, ↓Bq, hg, hg2, AP, MQ, FQ, PL]
      refine (Acj l x (by omega)).calls rfl ?_
      rintro r rfl
      by_cases hx : x ∈ AA l
      ·obtain ⟨m, _, hmf, _⟩ := Vz hx
       rw [hmf]
       simp -dsimp (disch := first | assumption | omega) only [↓Ag, Ad, Ai, Ah, eq_self, forall_const, Nat.reduceLT, Nat.reduceEqDiff, Nat.reduceSub, Nat.reduceMul, Nat.reduceMod, Nat.reduceDiv, Nat.reducePow, UInt8.reduceToNat, Int.reduceEq, Int.reduceLT, Int.reduceLE, ↓reduceIte, Nat.reduceAdd, Int.reduceToNat, reduceCtorEq, Nat.reduceLeDiff, ↓Bq]
       refine Az (n.ps.length - (k + 1)) (by omega) (by simp) ⟨k + 1, rfl, by omega, fun p hp' => ?_, rfl, rfl⟩
       rw [hsucc, List.mem_append, List.mem_singleton] at hp'
       rcases hp' with hp' | rfl
       ·exact h1 p hp'
       ·exact hx
      ·have hfx : fnd l x = -1 := by
        unfold fnd
        rw [if_neg (fun ⟨m, hm, e⟩ => hx (e ▸ JQ hm))]
       rw [hfx, Zj fun hok => hx (hok.1.there n (hn ▸ List.getElem_mem h) x hmem)]
       simp -dsimp (disch := first | assumption | omega) only [↓Ag, Ad, Ai, Ah, eq_self, forall_const, Nat.reduceLT, Nat.reduceEqDiff, Nat.reduceSub, Nat.reduceMul, Nat.reduceMod, Nat.reduceDiv, Nat.reducePow, UInt8.reduceToNat, Int.reduceEq, Int.reduceLT, Int.reduceLE, ↓reduceIte, Nat.reduceAdd, Int.reduceToNat, reduceCtorEq, Nat.reduceLeDiff, ↓Bq]
     ·have hk2 : k = n.ps.length := by omega
      rw [hk2, List.take_length] at h1
      simp -dsimp (disch := first | assumption | omega) only [↓Ag, Ad, Ai, Ah, eq_self, forall_const, Nat.reduceLT, Nat.reduceEqDiff, Nat.reduceSub, Nat.reduceMul, Nat.reduceMod, Nat.reduceDiv, Nat.reducePow, UInt8.reduceToNat, Int.reduceEq, Int.reduceLT, Int.reduceLE, ↓reduceIte, Nat.reduceAdd, Int.reduceToNat, reduceCtorEq, Nat.reduceLeDiff, ↓Bq, hg, AP]
      refine Az (l.length - (j + 1)) (by omega) (by simp) ⟨j + 1, rfl, by omega, fun k' hk' hkj => ?_, rfl, rfl⟩
      by_cases e : k' = j
      ·subst e; rw [hn]; exact ⟨hjf, h1⟩
      ·exact h0 k' hk' (by omega)
   ·rw [hjf, Zj fun hok => hji (by have := FO hok.1.nodup h; rw [hjf] at this; omega)]
    simp -dsimp (disch := first | assumption | omega) only [↓Ag, Ad, Ai, Ah, eq_self, forall_const, Nat.reduceLT, Nat.reduceEqDiff, Nat.reduceSub, Nat.reduceMul, Nat.reduceMod, Nat.reduceDiv, Nat.reducePow, UInt8.reduceToNat, Int.reduceEq, Int.reduceLT, Int.reduceLE, ↓reduceIte, Nat.reduceAdd, Int.reduceToNat, reduceCtorEq, Nat.reduceLeDiff, ↓Bq]
  ·have hv : Aba l := ⟨AbL fun k hk => (h0 k hk (by omega)).1, fun n hn p hp' => by
    obtain ⟨k, hk, rfl⟩ := List.mem_iff_getElem.1 hn
    exact (h0 k hk (by omega)).2 p hp'⟩
   simp -dsimp (disch := first | assumption | omega) only [↓Ag, Ad, Ai, Ah, eq_self, forall_const, Nat.reduceLT, Nat.reduceEqDiff, Nat.reduceSub, Nat.reduceMul, Nat.reduceMod, Nat.reduceDiv, Nat.reducePow, UInt8.reduceToNat, Int.reduceEq, Int.reduceLT, Int.reduceLE, ↓reduceIte, Nat.reduceAdd, Int.reduceToNat, reduceCtorEq, Nat.reduceLeDiff, ↓Bq]
   refine BG (fun q e H => ∃ i : Nat, q = l.length - i ∧ i ≤ l.length ∧ (∀ k (hk : k < l.length), k < i → ¬ Rc l l[k].ps l[k].id) ∧ e = [(0, .sl 22 (l.map ndT)), (6, i64 (i : Int))] ∧ H = []) l.length ?_ ?_
   ·exact ⟨0, by simp, by simp, fun k _ hk => by omega, rfl, rfl⟩
   ·clear h0 h hi
    rintro q e H ⟨i, rfl, hi, h0, rfl, rfl⟩
    by_cases h : i < l.length
    ·have hg : l[i]? = some l[i] := List.getElem?_eq_getElem h
     have hpi := hp l[i] (List.getElem_mem h)
     have hmem := List.getElem_mem h
     simp -dsimp (disch := first | assumption | omega) only [↓Ag, Ad, Ai, Ah, eq_self, forall_const, Nat.reduceLT, Nat.reduceEqDiff, Nat.reduceSub, Nat.reduceMul, Nat.reduceMod, Nat.reduceDiv, Nat.reducePow, UInt8.reduceToNat, Int.reduceEq, Int.reduceLT, Int.reduceLE, ↓reduceIte, Nat.reduceAdd, Int.reduceToNat, reduceCtorEq, Nat.reduceLeDiff, ↓Bq, hg, AP]
     refine (Ahd l l[i].ps hv hl (hv.there _ hmem) (fun n hn => by have := hp n hn; omega) (by omega)).calls rfl ?_
     rintro r rfl
     have hget := GH (l := l) (S := l[i].ps) h
     have hrl : (BB l l[i].ps).length = l.length := Gp
     by_cases hr : Rc l l[i].ps l[i].id
     ·rw [Zj fun hok => hok.2 ⟨_, hmem, hr⟩]
      have hm := hget.2 hr
      simp -dsimp (disch := first | assumption | omega) only [↓Ag, Ad, Ai, Ah, eq_self, forall_const, Nat.reduceLT, Nat.reduceEqDiff, Nat.reduceSub, Nat.reduceMul, Nat.reduceMod, Nat.reduceDiv, Nat.reducePow, UInt8.reduceToNat, Int.reduceEq, Int.reduceLT, Int.reduceLE, ↓reduceIte, Nat.reduceAdd, Int.reduceToNat, reduceCtorEq, Nat.reduceLeDiff, ↓Bq, hm]
     ·have hm : (BB l l[i].ps)[i]? = some false := by
       have h1 : (BB l l[i].ps)[i]? = some (BB l l[i].ps)[i] := List.getElem?_eq_getElem (by omega)
       cases hb : (BB l l[i].ps)[i] with
       | false => rw [h1, hb]
       | true => exact absurd (hget.1 (by rw [h1, hb])) hr
      simp -dsimp (disch := first | assumption | omega) only [↓Ag, Ad, Ai, Ah, eq_self, forall_const, Nat.reduceLT, Nat.reduceEqDiff, Nat.reduceSub, Nat.reduceMul, Nat.reduceMod, Nat.reduceDiv, Nat.reducePow, UInt8.reduceToNat, Int.reduceEq, Int.reduceLT, Int.reduceLE, ↓reduceIte, Nat.reduceAdd, Int.reduceToNat, reduceCtorEq, Nat.reduceLeDiff, ↓Bq, hm]
      refine Az (l.length - (i + 1)) (by omega) (by simp) ⟨i + 1, rfl, by omega, fun k hk hki => ?_, rfl, rfl⟩
      by_cases e : k = i
      ·subst e; exact hr
      ·exact h0 k hk (by omega)
    ·rw [Adt ⟨hv, fun ⟨n, hn, hr⟩ => by
      obtain ⟨k, hk, rfl⟩ := List.mem_iff_getElem.1 hn
      exact h0 k hk (by omega) hr⟩]
     simp -dsimp (disch := first | assumption | omega) only [↓Ag, Ad, Ai, Ah, eq_self, forall_const, Nat.reduceLT, Nat.reduceEqDiff, Nat.reduceSub, Nat.reduceMul, Nat.reduceMod, Nat.reduceDiv, Nat.reducePow, UInt8.reduceToNat, Int.reduceEq, Int.reduceLT, Int.reduceLE, ↓reduceIte, Nat.reduceAdd, Int.reduceToNat, reduceCtorEq, Nat.reduceLeDiff, ↓Bq]
end Go.Proofs.YtingoaihnlhiaaaDoor


namespace Go.Proofs.YtingoaihnlhiaaaDoor
open Go.RowKit
variable [A7]
set_option linter.unusedSectionVars false
set_option linter.unusedVariables false
set_option autoImplicit false

theorem AhY {k l : List UInt8} {x : TV} : ∀ {es : List (List UInt8 × TV)}, Fb k (EZ l x es) = if l = k then some x else Fb k es
 | [] => by simp [EZ, Fb]
 | (q, y) :: es => by
  rw [EZ]
  by_cases hq : q = l
  ·subst hq
   rw [if_pos rfl, Fb, Fb]
   by_cases h : q = k <;> simp [h]
  ·rw [if_neg hq, Fb, Fb, AhY]
   by_cases h : q = k
   ·subst h; rw [if_pos rfl, if_neg (fun e => hq e.symm), if_pos rfl]
   ·rw [if_neg h, if_neg h]
theorem TJ {k : List UInt8} {x : TV} : ∀ {es : List (List UInt8 × TV)}, (EZ k x es)[SC k es]? = some (k, x)
 | [] => by simp [EZ, SC]
 | (q, y) :: es => by
  rw [EZ, SC]
  by_cases hq : q = k
  ·subst hq; simp
  ·rw [if_neg hq, if_neg hq, List.getElem?_cons_succ, TJ]
theorem MW {k : List UInt8} {x y : TV} : ∀ {es : List (List UInt8 × TV)}, (EZ k x es).set (SC k es) (k, y) = EZ k y es
 | [] => by simp [EZ, SC]
 | (q, z) :: es => by
  rw [EZ, SC]
  by_cases hq : q = k
  ·subst hq; simp [EZ]
  ·rw [if_neg hq, if_neg hq, List.set_cons_succ, MW, EZ, if_neg hq]
theorem pr1 {α β : Type} {a : α} {b : β} : (a, b).1 = a := by simp
theorem pr2 {α β : Type} {a : α} {b : β} : (a, b).2 = b := by simp
theorem AeK {k : List UInt8} {x : TV} : ∀ {es : List (List UInt8 × TV)}, (EZ k x es).length = es.length + if k ∈ es.map (·.1) then 0 else 1
 | [] => by simp [EZ]
 | (q, y) :: es => by
  rw [EZ]
  by_cases hq : q = k
  ·subst hq; simp
  ·rw [if_neg hq, List.length_cons, AeK]
   have : ¬ k = q := fun e => hq e.symm
   simp only [List.map_cons, List.mem_cons, this, false_or, List.length_cons]
   omega
theorem AbI {k : List UInt8} {x : TV} : ∀ {es : List (List UInt8 × TV)}, ¬ k ∈ es.map (·.1) → EZ k x es = es ++ [(k, x)]
 | [], _ => by simp [EZ]
 | (q, y) :: es, h => by
  rw [List.map_cons, List.mem_cons, not_or] at h
  rw [EZ, if_neg (fun e => h.1 e.symm), AbI h.2, List.cons_append]
theorem AbT {k : List UInt8} {x : TV} : ∀ {es : List (List UInt8 × TV)} (y : List UInt8), y ∈ (EZ k x es).map (·.1) ↔ y = k ∨ y ∈ es.map (·.1)
 | [], y => by simp [EZ]
 | (q, z) :: es, y => by
  rw [EZ]
  by_cases hq : q = k
  ·subst hq; simp
  ·rw [if_neg hq, List.map_cons, List.mem_cons, AbT, List.map_cons, List.mem_cons]
   simp only []
   constructor
   ·rintro (h | h | h)
    ·exact .inr (.inl h)
    ·exact .inl h
    ·exact .inr (.inr h)
   ·rintro (h | h | h)
    ·exact .inr (.inl h)
    ·exact .inl h
    ·exact .inr (.inr h)

theorem YZ {α : Type} {P : List α → Prop} (h0 : P []) (hs : ∀ l a, P l → P (l ++ [a])) (l : List α) : P l := by
 have key : ∀ r : List α, P r.reverse := by
  intro r
  induction r with
  | nil => exact h0
  | cons a r ih => rw [List.reverse_cons]; exact hs _ _ ih
 have := key l.reverse
 rwa [List.reverse_reverse] at this
/-- Nodes by their ids, aS they are laid in, one by one. -/
def AY (l : List Nd) : List (List UInt8 × TV) := l.foldl (fun es n => EZ n.id (ndT n) es) []
theorem I8 {l : List Nd} {n : Nd} : AY (l ++ [n]) = EZ n.id (ndT n) (AY l) := by simp [AY]
theorem AdI {l : List Nd} : ∀ y, y ∈ (AY l).map (·.1) ↔ y ∈ AA l := by
 refine YZ (P := fun l => ∀ y, y ∈ (AY l).map (·.1) ↔ y ∈ AA l) ?_ ?_ l
 ·simp [AY, AA]
 ·intro l n ih y
  rw [I8, AbT, ih]
  simp [AA, or_comm]
theorem KX {l : List Nd} : (AY l).length ≤ l.length ∧ ((AY l).length = l.length ↔ (AA l).Nodup) ∧ ((AA l).Nodup → AY l = l.map fun n => (n.id, ndT n)) := by
 refine YZ (P := fun l => (AY l).length ≤ l.length ∧ ((AY l).length = l.length ↔ (AA l).Nodup) ∧ ((AA l).Nodup → AY l = l.map fun n => (n.id, ndT n))) ?_ ?_ l
 ·simp [AY, AA]
 ·intro l n ih
  obtain ⟨h1, h2, h3⟩ := ih
  have hk := AdI (l := l) n.id
  have hlen := AeK (k := n.id) (x := ndT n) (es := AY l)
  rw [I8, List.length_append, List.length_singleton]
  have hnd : (AA (l ++ [n])).Nodup ↔ (AA l).Nodup ∧ ¬ n.id ∈ AA l := by
   have e : AA (l ++ [n]) = AA l ++ [n.id] := by simp [AA]
   rw [e, List.nodup_append]
   constructor
   ·rintro ⟨g1, _, g2⟩
    exact ⟨g1, fun hm => g2 _ hm _ (by simp) rfl⟩
   ·rintro ⟨g1, g2⟩
    exact ⟨g1, by simp, fun a ha b hb => by rw [List.mem_singleton] at hb; subst hb; exact fun e => g2 (e ▸ ha)⟩
  by_cases hm : n.id ∈ AA l
  ·rw [if_pos (hk.2 hm)] at hlen
   refine ⟨by omega, ⟨fun e => by omega, fun e => absurd hm (hnd.1 e).2⟩, fun e => absurd hm (hnd.1 e).2⟩
  ·rw [if_neg (fun h => hm (hk.1 h))] at hlen
   refine ⟨by omega, ⟨fun e => hnd.2 ⟨h2.1 (by omega), hm⟩, fun e => by have := h2.2 (hnd.1 e).1; omega⟩, fun e => ?_⟩
   rw [AbI (fun h => hm (hk.1 h)), h3 (hnd.1 e).1]
   simp
theorem AbO {l : List Nd} {x : List UInt8} : Fb x (l.map fun n => (n.id, ndT n)) = (l.find? fun n => n.id == x).map ndT := by
 induction l with
 | nil => rfl
 | cons n l ih =>
  rw [List.map_cons, Fb, List.find?_cons]
  by_cases h : n.id = x
  ·simp [h]
  ·have : (n.id == x) = false := by simpa using h
   rw [if_neg h, this, ih]
theorem Eu {l : List Nd} (hn : (AA l).Nodup) {n : Nd} (h : n ∈ l) : Fb n.id (AY l) = some (ndT n) := by
 rw [KX.2.2 hn, AbO]
 obtain ⟨i, hi, rfl⟩ := List.mem_iff_getElem.1 h
 have : (l.find? fun m => m.id == l[i].id) = some l[i] := by
  rw [List.find?_eq_some_iff_getElem]
  refine ⟨by simp, i, hi, rfl, fun j hj => ?_⟩
  have := FO hn hi
  have hne : ¬ l[j].id = l[i].id := fun e => by
   have h2 := FO hn (i := j) (by omega)
   rw [e] at h2; omega
  simpa using hne
 rw [this]; rfl
theorem Zf {l : List Nd} {x : List UInt8} (h : ¬ x ∈ AA l) (hn : (AA l).Nodup) : Fb x (AY l) = none := by
 rw [KX.2.2 hn, AbO, Option.map_eq_none_iff, List.find?_eq_none]
 intro n hnl
 have : ¬ n.id = x := fun e => h (e ▸ JQ hnl)
 simpa using this

/-- No entry refers to an object. -/
def KL (es : List (List UInt8 × TV)) : Prop := ∀ g, Dy g (es.map (·.2)) = true
theorem KL.put {es : List (List UInt8 × TV)} (h : KL es) {k : List UInt8} {x : TV} (hx : ∀ g, DT g x = true) : KL (EZ k x es) := by
 intro g
 have h1 := h g
 clear h
 induction es with
 | nil => rw [EZ, List.map_cons, Dy, hx g]; rfl
 | cons e es ih =>
  obtain ⟨q, y⟩ := e
  rw [List.map_cons, Dy, Bool.and_eq_true] at h1
  rw [EZ]
  split
  ·rw [List.map_cons, Dy, hx g, h1.2]; rfl
  ·rw [List.map_cons, Dy, h1.1, ih h1.2]; rfl
theorem KL.nil : KL [] := fun g => rfl
theorem C9 {l : List Nd} : KL (AY l) := by
 refine YZ (P := fun l => KL (AY l)) KL.nil (fun l n ih => ?_) l
 rw [I8]
 exact ih.put fun g => by rw [AP]; rfl
/-- A map that counts. -/
def Y0 (es : List (List UInt8 × TV)) (f : List UInt8 → Nat) : Prop := ∀ y, (Fb y es).getD (i64 ((0 : Nat) : Int)) = i64 ((f y : Nat) : Int)
theorem Y0.put {es : List (List UInt8 × TV)} {f : List UInt8 → Nat} (h : Y0 es f) (p : List UInt8) (n : Nat) : Y0 (EZ p (i64 ((n : Nat) : Int)) es) (fun y => if p = y then n else f y) := by
 intro y
 rw [AhY]
 by_cases e : p = y
 ·simp [e]
 ·simp only [if_neg e]; exact h y
theorem Y0.congr {es : List (List UInt8 × TV)} {f g : List UInt8 → Nat} (h : Y0 es f) (e : ∀ y, g y = f y) : Y0 es g := fun y => by rw [e]; exact h y
theorem Y0.nil : Y0 [] (fun _ => 0) := fun y => by rw [Fb]; rfl

theorem An3 {l : List Nd} (hp : ∀ n ∈ l, n.ps.length ≤ 1000) (d : List (List UInt8)) (y : List UInt8) : kids l d y ≤ 1000 * l.length := by
 unfold kids
 refine Nat.le_trans List.count_le_length ?_
 rw [List.length_flatMap]
 induction l with
 | nil => simp
 | cons n l ih =>
  have h1 := ih fun m hm => hp m (by simp [hm])
  have h2 := hp n (by simp)
  rw [List.filter_cons, List.length_cons]
  split
  ·rw [List.map_cons, List.sum_cons]; omega
  ·omega
theorem AiA {l : List Nd} {y : List UInt8} : kids l [] y = (l.flatMap (·.ps)).count y := by
 unfold kids
 rw [List.filter_eq_self.2 (by simp)]
end Go.Proofs.YtingoaihnlhiaaaDoor


namespace Go.Proofs.YtingoaihnlhiaaaDoor
open Go.RowKit
variable [A7]
set_option linter.unusedSectionVars false
set_option linter.unusedVariables false
set_option linter.unusedSimpArgs false

theorem Agy {n : Nd} : AB (ndT n) = 22 := by rw [AP]; rfl
theorem AjC {cs : List TV} {off m : Nat} {x : List UInt8} {fr : List (List UInt8)} (h : (cs.drop off).take (m + 1) = (x :: fr).map idT) : cs[off]? = some (idT x) ∧ (cs.drop (off + 1)).take m = fr.map idT := by
 have h0 : ((cs.drop off).take (m + 1))[0]? = some (idT x) := by rw [h]; rfl
 rw [List.getElem?_take, if_pos (by omega), List.getElem?_drop, Nat.add_zero] at h0
 refine ⟨h0, ?_⟩
 have h1 := congrArg (List.drop 1) h
 rw [List.drop_take, List.drop_drop] at h1
 simpa using h1

theorem Abm {l : List Nd} {n : Nd} {g : Nat} : Dy g ((EZ n.id (TV.agg [TV.arr 20 1 (n.id.map by8), TV.sl 20 (n.ps.map idT), i64 n.tm]) (AY l)).map (·.2)) = true := (C9.put (x := TV.agg _) fun g => rfl) g
abbrev U3 : Ob := .obj 0 (.agg [.mp 0 0, .val (.map none)])
theorem AsF (l : List Nd) (hl : l.length ≤ 1000) (hp : ∀ n ∈ l, n.ps.length ≤ 1000) : Aq Tryd.prog 35 [.sl 22 (l.map ndT)] [] (fun x H' =>
  (GOk l → x = .tup [.op 1 0 [], .val .nilIface] ∧ ∃ es o, H' = [.mpo (.arr 20) (AY l), U3, .mpo (.arr 20) es, o]) ∧ (¬ GOk l → x = .tup [.val (.pointer none), .ifc 36 (i64 ((80 : Nat) : Int))])) := by
 refine Abv (by simp) ?_
 simp -dsimp (disch := first | assumption | omega) only [↓Ag, Ad, Ai, Ah, eq_self, forall_const, Nat.reduceLT, Nat.reduceEqDiff, Nat.reduceSub, Nat.reduceMul, Nat.reduceMod, Nat.reduceDiv, Nat.reducePow, UInt8.reduceToNat, Int.reduceEq, Int.reduceLT, Int.reduceLE, ↓reduceIte, Nat.reduceAdd, Int.reduceToNat, reduceCtorEq, Nat.reduceLeDiff, ↓AQ]
 -- the nodes
 refine BG (fun q e H => ∃ i : Nat, q = l.length - i ∧ i ≤ l.length ∧ e = [(0, .sl 22 (l.map ndT)), (4, .op 1 0 []), (26, .sl 22 (l.map ndT)), (27, i64 (l.length : Int)), (28, i64 (i : Int))] ∧ H = [.mpo (.arr 20) (AY (l.take i)), U3]) l.length ?_ ?_
 ·exact ⟨0, by simp, by simp, rfl, by simp [AY]⟩
 ·rintro q e H ⟨i, rfl, hi, rfl, rfl⟩
  by_cases h : i < l.length
  ·have hg : l[i]? = some l[i] := List.getElem?_eq_getElem h
   have hsucc := List.take_succ_eq_append_getElem h
   generalize l[i] = n at *
   simp -dsimp (disch := first | assumption | omega) only [↓Ag, Ad, Ai, Ah, eq_self, forall_const, Nat.reduceLT, Nat.reduceEqDiff, Nat.reduceSub, Nat.reduceMul, Nat.reduceMod, Nat.reduceDiv, Nat.reducePow, UInt8.reduceToNat, Int.reduceEq, Int.reduceLT, Int.reduceLE, ↓reduceIte, Nat.reduceAdd, Int.reduceToNat, reduceCtorEq, Nat.reduceLeDiff, ↓AQ, hg, AP]
   refine JP (l.length - (i + 1)) 2 (by omega) (by simp) rfl (by simp [Ic, NY, DT, Dy, C9 _, Abm]) ⟨i + 1, rfl, by omega, rfl, ?_⟩
   rw [hsucc, I8, AP]; rfl
  ·have hi2 : i = l.length := by omega
   rw [hi2, List.take_length]
   clear hi2 hi
   by_cases hn : (AA l).Nodup
   case neg =>
    have h1 := (KX (l := l)).1
    have h2 : ¬ (AY l).length = l.length := fun e => hn (KX.2.1.1 e)
    have h3 : (AY l).length < l.length := by omega
    have hno : ¬ GOk l := fun hok => hn hok.1.nodup
    simp -dsimp (disch := first | assumption | omega) only [↓Ag, Ad, Ai, Ah, eq_self, forall_const, Nat.reduceLT, Nat.reduceEqDiff, Nat.reduceSub, Nat.reduceMul, Nat.reduceMod, Nat.reduceDiv, Nat.reducePow, UInt8.reduceToNat, Int.reduceEq, Int.reduceLT, Int.reduceLE, ↓reduceIte, Nat.reduceAdd, Int.reduceToNat, reduceCtorEq, Nat.reduceLeDiff, ↓AQ]
    exact ⟨fun hok => absurd hok hno, by simp⟩
   have hlen : (AY l).length = l.length := KX.2.1.2 hn
   simp -dsimp (disch := first | assumption | omega) only [↓Ag, Ad, Ai, Ah, eq_self, forall_const, Nat.reduceLT, Nat.reduceEqDiff, Nat.reduceSub, Nat.reduceMul, Nat.reduceMod, Nat.reduceDiv, Nat.reducePow, UInt8.reduceToNat, Int.reduceEq, Int.reduceLT, Int.reduceLE, ↓reduceIte, Nat.reduceAdd, Int.reduceToNat, reduceCtorEq, Nat.reduceLeDiff, ↓AQ, hlen]
   -- who names whom
   refine BG (fun q e H => ∃ (i : Nat) (es : List (List UInt8 × TV)) (f : List UInt8 → Nat), q = l.length - i ∧ i ≤ l.length ∧ (Y0 es f ∧ KL es) ∧ (∀ y, f y = ((l.take i).flatMap (·.ps)).count y) ∧ (∀ y, f y ≤ 1000 * i) ∧ (∀ n ∈ l.take i, ∀ p ∈ n.ps, p ∈ AA l) ∧
    e = [(0, .sl 22 (l.map ndT)), (4, .op 1 0 []), (7, .mp 2 0), (55, .sl 22 (l.map ndT)), (56, i64 (l.length : Int)), (57, i64 (i : Int))] ∧ H = [.mpo (.arr 20) (AY l), U3, .mpo (.arr 20) es]) l.length ?_ ?_
   ·exact ⟨0, [], fun _ => 0, by simp, by simp, ⟨Y0.nil, KL.nil⟩, by simp, by simp, by simp, rfl, rfl⟩
   ·clear h i
    rintro q e H ⟨i, es, f, rfl, hi, ⟨hc, hbm⟩, hf, hb, hv, rfl, rfl⟩
    by_cases h : i < l.length
    ·have hg : l[i]? = some l[i] := List.getElem?_eq_getElem h
     have hsucc := List.take_succ_eq_append_getElem h
     have hpi := hp l[i] (List.getElem_mem h)
     have hmem := List.getElem_mem h
     generalize l[i] = n at *
     simp -dsimp (disch := first | assumption | omega) only [↓Ag, Ad, Ai, Ah, eq_self, forall_const, Nat.reduceLT, Nat.reduceEqDiff, Nat.reduceSub, Nat.reduceMul, Nat.reduceMod, Nat.reduceDiv, Nat.reducePow, UInt8.reduceToNat, Int.reduceEq, Int.reduceLT, Int.reduceLE, ↓reduceIte, Nat.reduceAdd, Int.reduceToNat, reduceCtorEq, Nat.reduceLeDiff, ↓AQ, hg, AP]
     refine BG (fun q e H => ∃ (k : Nat) (es : List (List UInt8 × TV)) (f' : List UInt8 → Nat), q = n.ps.length - k ∧ k ≤ n.ps.length ∧ (Y0 es f' ∧ KL es) ∧ (∀ y, f' y = f y + (n.ps.take k).count y) ∧ (∀ y, f' y ≤ 1000 * i + k) ∧ (∀ p ∈ n.ps.take k, p ∈ AA l) ∧
      e = [(0, .sl 22 (l.map ndT)), (4, .op 1 0 []), (7, .mp 2 0), (55, .sl 22 (l.map ndT)), (56, i64 (l.length : Int)), (57, i64 (i : Int)), (62, .sl 20 (n.ps.map idT)), (63, i64 (n.ps.length : Int)), (64, i64 (k : Int))] ∧ H = [.mpo (.arr 20) (AY l), U3, .mpo (.arr 20) es, .obj 0 (ndT n)]) n.ps.length ?_ ?_
     ·exact ⟨0, es, f, by simp, by simp, ⟨hc, hbm⟩, by simp, by simpa using hb, by simp, rfl, by rw [AP]⟩
     ·clear hc hbm
      rintro q e H ⟨k, es, f', rfl, hk, ⟨hc, hbm⟩, hf2, hb2, hv2, rfl, rfl⟩
      by_cases h2 : k < n.ps.length
      ·have hg2 : n.ps[k]? = some n.ps[k] := List.getElem?_eq_getElem h2
       have hsucc2 := List.take_succ_eq_append_getElem h2
       have hpm := List.getElem_mem h2
       generalize n.ps[k] = p at *
       have hcp := hc p
       have hbp := hb2 p
       by_cases hpl : p ∈ AA l
       ·obtain ⟨m, hm, hme⟩ := List.mem_map.1 hpl
        have hlook : Fb p (AY l) = some (ndT m) := by rw [← hme]; exact Eu hn hm
        simp -dsimp (disch := first | assumption | omega) only [↓Ag, Ad, Ai, Ah, eq_self, forall_const, Nat.reduceLT, Nat.reduceEqDiff, Nat.reduceSub, Nat.reduceMul, Nat.reduceMod, Nat.reduceDiv, Nat.reducePow, UInt8.reduceToNat, Int.reduceEq, Int.reduceLT, Int.reduceLE, ↓reduceIte, Nat.reduceAdd, Int.reduceToNat, reduceCtorEq, Nat.reduceLeDiff, ↓AQ, hg2, AZ, hlook, AP, Option.isSome_some, Option.isSome_none]
        simp -dsimp (disch := first | assumption | omega) only [↓Ag, Ad, Ai, Ah, eq_self, forall_const, Nat.reduceLT, Nat.reduceEqDiff, Nat.reduceSub, Nat.reduceMul, Nat.reduceMod, Nat.reduceDiv, Nat.reducePow, UInt8.reduceToNat, Int.reduceEq, Int.reduceLT, Int.reduceLE, ↓reduceIte, Nat.reduceAdd, Int.reduceToNat, reduceCtorEq, Nat.reduceLeDiff, ↓AQ, hcp, TJ, MW, pr1, pr2]
        refine JP (n.ps.length - (k + 1)) 4 (by omega) (by simp) rfl (by simp [Ic, NY, DT, Dy, C9 _, hbm _, AP, AZ, (hbm.put (x := .val (.int .i64 ((f' p : Nat) + 1 : Int))) fun g => rfl) 4]) ⟨k + 1, _, _, rfl, by omega, ⟨hc.put p (f' p + 1), hbm.put fun g => rfl⟩, fun y => ?_, fun y => ?_, fun y hy => ?_, rfl, by rw [AP]; rfl⟩
        ·rw [hsucc2, List.count_append, ← Nat.add_assoc, ← hf2 y]
         by_cases e : p = y
         ·subst e; simp
         ·simp [e]
        ·have := hb2 y
         by_cases e : p = y
         ·subst e; simp; omega
         ·simp [e]; omega
        ·rw [hsucc2, List.mem_append, List.mem_singleton] at hy
         rcases hy with hy | rfl
         ·exact hv2 y hy
         ·exact hpl
       ·have hlook := Zf hpl hn
        have hno : ¬ GOk l := fun hok => hpl (hok.1.there n hmem p hpm)
        simp -dsimp (disch := first | assumption | omega) only [↓Ag, Ad, Ai, Ah, eq_self, forall_const, Nat.reduceLT, Nat.reduceEqDiff, Nat.reduceSub, Nat.reduceMul, Nat.reduceMod, Nat.reduceDiv, Nat.reducePow, UInt8.reduceToNat, Int.reduceEq, Int.reduceLT, Int.reduceLE, ↓reduceIte, Nat.reduceAdd, Int.reduceToNat, reduceCtorEq, Nat.reduceLeDiff, ↓AQ, hg2, AZ, hlook, Option.isSome_some, Option.isSome_none]
        exact ⟨fun hok => absurd hok hno, by simp⟩
      ·have hk2 : k = n.ps.length := by omega
       rw [hk2] at hf2 hv2
       rw [List.take_length] at hv2
       simp -dsimp (disch := first | assumption | omega) only [↓Ag, Ad, Ai, Ah, eq_self, forall_const, Nat.reduceLT, Nat.reduceEqDiff, Nat.reduceSub, Nat.reduceMul, Nat.reduceMod, Nat.reduceDiv, Nat.reducePow, UInt8.reduceToNat, Int.reduceEq, Int.reduceLT, Int.reduceLE, ↓reduceIte, Nat.reduceAdd, Int.reduceToNat, reduceCtorEq, Nat.reduceLeDiff, ↓AQ]
       refine JP (l.length - (i + 1)) 3 (by omega) (by simp) rfl (by simp [Ic, NY, DT, Dy, C9 _, hbm _, AP, AZ]) ⟨i + 1, es, f', rfl, by omega, ⟨hc, hbm⟩, fun y => ?_, fun y => by have := hb2 y; omega, fun m hm p hp' => ?_, rfl, rfl⟩
       ·rw [hf2 y, hsucc, List.take_length, hf y]; simp
       ·rw [hsucc, List.mem_append, List.mem_singleton] at hm
        rcases hm with hm | rfl
        ·exact hv m hm p hp'
        ·exact hv2 p hp'
    ·have hi2 : i = l.length := by omega
     rw [hi2, List.take_length] at hf hv
     clear hi2 hi hb
     have hV : Aba l := ⟨hn, hv⟩
     replace hf : ∀ y, f y = kids l [] y := fun y => by rw [hf y, AiA]
     replace hc : Y0 es (kids l []) := hc.congr fun y => (hf y).symm
     clear hf hv
     have hkb := fun d y => An3 hp d y
     simp -dsimp (disch := first | assumption | omega) only [↓Ag, Ad, Ai, Ah, eq_self, forall_const, Nat.reduceLT, Nat.reduceEqDiff, Nat.reduceSub, Nat.reduceMul, Nat.reduceMod, Nat.reduceDiv, Nat.reducePow, UInt8.reduceToNat, Int.reduceEq, Int.reduceLT, Int.reduceLE, ↓reduceIte, Nat.reduceAdd, Int.reduceToNat, reduceCtorEq, Nat.reduceLeDiff, ↓AQ]
     -- those that are free at first
     refine BG (fun q e H => ∃ (i v : Nat) (fr : List (List UInt8)), q = l.length - i ∧ i ≤ l.length ∧ fr = (AA (l.take i)).filter (fun y => decide (kids l [] y = 0)) ∧ fr.length ≤ i ∧
      e = [(0, .sl 22 (l.map ndT)), (4, .op 1 0 []), (7, .mp 2 0), (14, .os 20 3 v [] 0 fr.length fr.length), (88, .sl 22 (l.map ndT)), (89, i64 (l.length : Int)), (90, i64 (i : Int))] ∧ H = [.mpo (.arr 20) (AY l), U3, .mpo (.arr 20) es, .obj v (.arr fr.length 20 (fr.map idT))]) l.length ?_ ?_
     ·exact ⟨0, 0, [], by simp, by simp, by simp [AA], by simp, rfl, rfl⟩
     ·clear h i
      rintro q e H ⟨i, v, fr, rfl, hi, hfr, hfl, rfl, rfl⟩
      by_cases h : i < l.length
      ·have hg : l[i]? = some l[i] := List.getElem?_eq_getElem h
       have hsucc := List.take_succ_eq_append_getElem h
       generalize l[i] = n at *
       have hcp := hc n.id
       have hkn := hkb [] n.id
       have hfs : (AA (l.take (i + 1))).filter (fun y => decide (kids l [] y = 0)) = fr ++ (if kids l [] n.id = 0 then [n.id] else []) := by
        rw [hsucc, hfr]
        simp only [AA, List.map_append, List.filter_append, List.map_cons, List.map_nil]
        congr 1
        by_cases h0 : kids l [] n.id = 0 <;> simp [h0]
       by_cases h0 : kids l [] n.id = 0
       ·rw [if_pos h0] at hfs
        rw [h0] at hcp
        have htk : (fr.map idT).take fr.length = fr.map idT := Ec rfl
        simp -dsimp (disch := first | assumption | omega) only [↓Ag, Ad, Ai, Ah, eq_self, forall_const, Nat.reduceLT, Nat.reduceEqDiff, Nat.reduceSub, Nat.reduceMul, Nat.reduceMod, Nat.reduceDiv, Nat.reducePow, UInt8.reduceToNat, Int.reduceEq, Int.reduceLT, Int.reduceLE, ↓reduceIte, Nat.reduceAdd, Int.reduceToNat, reduceCtorEq, Nat.reduceLeDiff, ↓AQ, hg, AP, hcp, Qz, Hm, htk, Zl]
        refine JP (l.length - (i + 1)) 4 (by omega) (by simp) rfl (by simp [Ic, NY, DT, Dy, C9 _, hbm _, AP, AZ]) ⟨i + 1, v + 1, fr ++ [n.id], rfl, by omega, hfs.symm, by simp; omega, by simp [forget, get], by simp⟩
       ·rw [if_neg h0, List.append_nil] at hfs
        simp -dsimp (disch := first | assumption | omega) only [↓Ag, Ad, Ai, Ah, eq_self, forall_const, Nat.reduceLT, Nat.reduceEqDiff, Nat.reduceSub, Nat.reduceMul, Nat.reduceMod, Nat.reduceDiv, Nat.reducePow, UInt8.reduceToNat, Int.reduceEq, Int.reduceLT, Int.reduceLE, ↓reduceIte, Nat.reduceAdd, Int.reduceToNat, reduceCtorEq, Nat.reduceLeDiff, ↓AQ, hg, AP, hcp]
        refine JP (l.length - (i + 1)) 4 (by omega) (by simp) rfl (by simp [Ic, NY, DT, Dy, C9 _, hbm _, AP, AZ]) ⟨i + 1, v, fr, rfl, by omega, hfs.symm, by omega, rfl, rfl⟩
      ·have hi2 : i = l.length := by omega
       rw [hi2, List.take_length] at hfr
       have hK : Aek l [] fr (kids l []) := ⟨.nil, by rw [hfr]; exact hn.filter _, fun y => by rw [hfr]; simp [List.mem_filter], by simp⟩
       clear hi2 hfr hfl hi
       simp -dsimp (disch := first | assumption | omega) only [↓Ag, Ad, Ai, Ah, eq_self, forall_const, Nat.reduceLT, Nat.reduceEqDiff, Nat.reduceSub, Nat.reduceMul, Nat.reduceMod, Nat.reduceDiv, Nat.reducePow, UInt8.reduceToNat, Int.reduceEq, Int.reduceLT, Int.reduceLE, ↓reduceIte, Nat.reduceAdd, Int.reduceToNat, reduceCtorEq, Nat.reduceLeDiff, ↓AQ]
       -- coming free
       refine BG (fun q e H => ∃ (d fr : List (List UInt8)) (es : List (List UInt8 × TV)) (off n v cp : Nat) (cs : List TV), q = l.length - d.length ∧ Aek l d fr (kids l d) ∧ (Y0 es (kids l d) ∧ KL es) ∧ (cs.drop off).take fr.length = fr.map idT ∧ off + fr.length ≤ cs.length ∧ fr.length ≤ cp ∧
        e = [(0, .sl 22 (l.map ndT)), (4, .op 1 0 []), (7, .mp 2 0), (14, .os 20 3 v [] off fr.length cp), (17, i64 (d.length : Int))] ∧ H = [.mpo (.arr 20) (AY l), U3, .mpo (.arr 20) es, .obj v (.arr n 20 cs)]) l.length ?_ ?_
       ·exact ⟨[], fr, es, 0, fr.length, v, fr.length, fr.map idT, by simp, hK, ⟨hc, hbm⟩, by rw [List.drop_zero]; exact Ec rfl, by simp, by simp, rfl, rfl⟩
       ·clear hK hc h hbm
        rintro q e H ⟨d, fr, es, off, N, v, cp, cs, rfl, hK, ⟨hc, hbm⟩, hcs, hol, hcl, rfl, rfl⟩
        have hdl := hK.ord.le
        cases fr with
        | nil =>
         clear hcs hol hcl
         have hfin := hK.none hV
         by_cases hd : d.length = l.length
         ·have hok : GOk l := ⟨hV, hfin.1 hd⟩
          simp -dsimp (disch := first | assumption | omega) only [↓Ag, Ad, Ai, Ah, eq_self, forall_const, Nat.reduceLT, Nat.reduceEqDiff, Nat.reduceSub, Nat.reduceMul, Nat.reduceMod, Nat.reduceDiv, Nat.reducePow, UInt8.reduceToNat, Int.reduceEq, Int.reduceLT, Int.reduceLE, ↓reduceIte, Nat.reduceAdd, Int.reduceToNat, reduceCtorEq, Nat.reduceLeDiff, ↓AQ]
          exact ⟨fun _ => ⟨es, _, rfl⟩, fun hno => absurd hok hno⟩
         ·have hno : ¬ GOk l := fun hok => hd (hfin.2 hok.2)
          simp -dsimp (disch := first | assumption | omega) only [↓Ag, Ad, Ai, Ah, eq_self, forall_const, Nat.reduceLT, Nat.reduceEqDiff, Nat.reduceSub, Nat.reduceMul, Nat.reduceMod, Nat.reduceDiv, Nat.reducePow, UInt8.reduceToNat, Int.reduceEq, Int.reduceLT, Int.reduceLE, ↓reduceIte, Nat.reduceAdd, Int.reduceToNat, reduceCtorEq, Nat.reduceLeDiff, ↓AQ]
          exact ⟨fun hok => absurd hok hno, by simp⟩
        | cons x fr =>
         obtain ⟨hx1, hx2, hx3⟩ := (hK.free x).1 (by simp)
         obtain ⟨n, hnl, rfl⟩ := List.mem_map.1 hx1
         have hlook := Eu hn hnl
         obtain ⟨hc0, hcs⟩ := AjC hcs
         rw [AZ] at hc0
         rw [List.length_cons] at hol hcl
         have hT := hK.take hV hnl
         have hd1 : d.length + 1 ≤ l.length := by have := hT.ord.le; simpa using this
         have hpi := hp n hnl
         replace hc : Y0 es (fun y => kids l (d ++ [n.id]) y + n.ps.count y) := hc.congr fun y => (Abl hn hnl hx2 y).symm
         simp -dsimp (disch := first | assumption | omega) only [↓Ag, Ad, Ai, Ah, eq_self, forall_const, Nat.reduceLT, Nat.reduceEqDiff, Nat.reduceSub, Nat.reduceMul, Nat.reduceMod, Nat.reduceDiv, Nat.reducePow, UInt8.reduceToNat, Int.reduceEq, Int.reduceLT, Int.reduceLE, ↓reduceIte, Nat.reduceAdd, Int.reduceToNat, reduceCtorEq, Nat.reduceLeDiff, ↓AQ, hc0, hlook, AP, Nat.add_zero]
         refine BG (fun q e H => ∃ (k : Nat) (fr : List (List UInt8)) (es : List (List UInt8 × TV)) (f : List UInt8 → Nat) (off N v cp : Nat) (cs : List TV), q = n.ps.length - k ∧ k ≤ n.ps.length ∧ Aek l (d ++ [n.id]) fr f ∧ (∀ y, f y = kids l (d ++ [n.id]) y + (n.ps.drop k).count y) ∧ (Y0 es f ∧ KL es) ∧
          (cs.drop off).take fr.length = fr.map idT ∧ off + fr.length ≤ cs.length ∧ fr.length ≤ cp ∧
          e = [(0, .sl 22 (l.map ndT)), (4, .op 1 0 []), (7, .mp 2 0), (14, .os 20 3 v [] off fr.length cp), (17, i64 (d.length : Int)), (121, .sl 20 (n.ps.map idT)), (122, i64 (n.ps.length : Int)), (123, i64 (k : Int))] ∧
          H = [.mpo (.arr 20) (AY l), U3, .mpo (.arr 20) es, .obj v (.arr N 20 cs), .obj 0 (ndT n)]) n.ps.length ?_ ?_
         ·exact ⟨0, fr, es, _, off + 1, N, v, cp - 1, cs, by simp, by simp, hT, by simp, ⟨hc, hbm⟩, hcs, by omega, by omega, rfl, by rw [AP]⟩
         ·clear hc hbm hcs hol hcl hc0 hT hK
          rintro q e H ⟨k, fr, es, f, off, N, v, cp, cs, rfl, hk, hK, hf, ⟨hc, hbm⟩, hcs, hol, hcl, rfl, rfl⟩
          by_cases h2 : k < n.ps.length
          ·have hg2 : n.ps[k]? = some n.ps[k] := List.getElem?_eq_getElem h2
           have hdrop := List.drop_eq_getElem_cons h2
           have hpm := List.getElem_mem h2
           generalize n.ps[k] = p at *
           have hcp := hc p
           have hkp := hkb (d ++ [n.id]) p
           have hcnt : (n.ps.drop k).count p ≤ n.ps.length := Nat.le_trans List.count_le_length (by simp)
           have hfp := hf p
           have hf1 : 1 ≤ f p := by rw [hfp, hdrop]; simp; omega
           have hfr1 : fr.length ≤ l.length := by
            have := JY hK.nodup (e := AA l) fun y hy => ((hK.free y).1 hy).1
            simpa [AA] using this
           have hD := hK.drop (hV.there n hnl p hpm) (by omega)
           have hc' := hc.put p (f p - 1)
           have hf' : ∀ y, (if p = y then f p - 1 else f y) = kids l (d ++ [n.id]) y + (n.ps.drop (k + 1)).count y := by
            intro y
            have h9 := hf y
            rw [hdrop, List.count_cons] at h9
            by_cases e : p = y
            ·subst e; simp at h9 ⊢; omega
            ·simp [e] at h9 ⊢; omega
           by_cases h0 : f p = 1
           ·rw [if_pos h0] at hD
            rw [h0] at hcp hc'
            have hcp2 : (Fb p (EZ p (i64 (((1 : Nat) - 1 : Nat) : Int)) es)).getD (i64 ((0 : Nat) : Int)) = i64 ((0 : Nat) : Int) := by rw [AhY, if_pos rfl]; rfl
            have hoff : (cs.drop off).take fr.length = fr.map idT := hcs
            simp -dsimp (disch := first | assumption | omega) only [↓Ag, Ad, Ai, Ah, eq_self, forall_const, Nat.reduceLT, Nat.reduceEqDiff, Nat.reduceSub, Nat.reduceMul, Nat.reduceMod, Nat.reduceDiv, Nat.reducePow, UInt8.reduceToNat, Int.reduceEq, Int.reduceLT, Int.reduceLE, ↓reduceIte, Nat.reduceAdd, Int.reduceToNat, reduceCtorEq, Nat.reduceLeDiff, ↓AQ, hg2, AZ, hcp, hcp2, Qz, Hm, hoff, Zl, TJ, MW, pr1, pr2]
            have hc0 : Y0 (EZ p (i64 ((0 : Nat) : Int)) es) (fun y => if p = y then f p - 1 else f y) := by rw [h0]; exact hc'
            refine JP (n.ps.length - (k + 1)) 5 (by omega) (by simp) rfl (by simp [Ic, NY, DT, Dy, C9 _, AP, AZ, (hbm.put (x := .val (.int .i64 0)) fun g => rfl) 5]) ⟨k + 1, fr ++ [p], EZ p (i64 ((0 : Nat) : Int)) es, _, 0, fr.length + 1, v + 1, fr.length + 1, (fr ++ [p]).map idT, rfl, by omega, hD, hf', ⟨hc0, hbm.put fun g => rfl⟩, ?_, ?_, ?_, ?_, rfl⟩
            ·rw [List.drop_zero]; exact Ec rfl
            ·simp
            ·simp
            ·simp [forget, get]
           ·rw [if_neg h0] at hD
            have hcp2 : (Fb p (EZ p (i64 ((f p - 1 : Nat) : Int)) es)).getD (i64 ((0 : Nat) : Int)) = i64 ((f p - 1 : Nat) : Int) := by rw [AhY, if_pos rfl]; rfl
            simp -dsimp (disch := first | assumption | omega) only [↓Ag, Ad, Ai, Ah, eq_self, forall_const, Nat.reduceLT, Nat.reduceEqDiff, Nat.reduceSub, Nat.reduceMul, Nat.reduceMod, Nat.reduceDiv, Nat.reducePow, UInt8.reduceToNat, Int.reduceEq, Int.reduceLT, Int.reduceLE, ↓reduceIte, Nat.reduceAdd, Int.reduceToNat, reduceCtorEq, Nat.reduceLeDiff, ↓AQ, hg2, AZ, hcp, hcp2, TJ, MW, pr1, pr2]
            refine JP (n.ps.length - (k + 1)) 5 (by omega) (by simp) rfl (by simp [Ic, NY, DT, Dy, C9 _, AP, AZ, hol, (hbm.put (x := .val (.int .i64 ((f p - 1 : Nat) : Int))) fun g => rfl) 5]) ⟨k + 1, fr, _, _, off, N, v, cp, cs, rfl, by omega, hD, hf', ⟨hc', hbm.put fun g => rfl⟩, hcs, hol, hcl, rfl, rfl⟩
          ·have hk2 : k = n.ps.length := by omega
           rw [hk2, List.drop_length] at hf
           have hfe : ∀ y, kids l (d ++ [n.id]) y = f y := fun y => by rw [hf y]; simp
           simp -dsimp (disch := first | assumption | omega) only [↓Ag, Ad, Ai, Ah, eq_self, forall_const, Nat.reduceLT, Nat.reduceEqDiff, Nat.reduceSub, Nat.reduceMul, Nat.reduceMod, Nat.reduceDiv, Nat.reducePow, UInt8.reduceToNat, Int.reduceEq, Int.reduceLT, Int.reduceLE, ↓reduceIte, Nat.reduceAdd, Int.reduceToNat, reduceCtorEq, Nat.reduceLeDiff, ↓AQ]
           refine JP (l.length - (d.length + 1)) 4 (by omega) (by simp) rfl (by simp [Ic, NY, DT, Dy, C9 _, hbm _, AP, AZ]) ⟨d ++ [n.id], fr, es, off, N, v, cp, cs, by simp, hK.congr hfe, ⟨hc.congr hfe, hbm⟩, hcs, hol, hcl, by simp [forget, get], rfl⟩
end Go.Proofs.YtingoaihnlhiaaaDoor


namespace Go.Proofs.YtingoaihnlhiaaaDoor
variable [A7]
set_option linter.unusedSectionVars false
set_option linter.unusedVariables false
set_option linter.defProp false
set_option maxRecDepth 100000




def V3 : Af := .seq (.seq (.ops [mv_ 13 7,
  po_ 14 (.eqN 1 (.t 13) (.c .nilIface) false),
  mv_ 15 14,
  ⟨some 16, .p (.mov (.t 6)), some ⟨15, true⟩⟩,
  ⟨some 17, .p (.mov (.t 1)), some ⟨15, true⟩⟩,
  ⟨some 18, .s (.call 36 [.t 16, .t 17]), some ⟨15, true⟩⟩,
  ⟨some 19, .p (.un .not (.t 18)), some ⟨15, true⟩⟩,
  po_ 20 (.pick (.t 15) (.t 19) (.c (.bool false)))] [6, 7, 20])
 (.cond (.t 20)
 (.ops [po_ 21 (.iface 36 (ci_ 80)),
   mv_ 7 21] [6, 7])
 (.skip)))
 (.seq (.ops [mv_ 22 6,
  mv_ 23 7,
  mv_ 4 22,
  mv_ 5 23] [4, 5])
 (.ret))
def WO : Af := .seq (.ops [mv_ 9 0,
  so_ 10 (.call 35 [.t 9]),
  mv_ 8 10,
  po_ 11 (.ext 0 (.t 8)),
  po_ 12 (.ext 1 (.t 8)),
  mv_ 6 11,
  mv_ 7 12] [1, 6, 7])
 V3
def Aat : Af := .seq (.ops [po_ 4 (.mov (.c (.pointer none))),
  po_ 5 (.mov (.c .nilIface))] [0, 1])
 WO
def AaT : List VR := [.tmp 4, .tmp 5]
theorem AfH : Tryd.f19.body.bind (trC Tryd.prog Tryd.f19.ntmps) = some (er Aat) := by kernel_rfl
theorem Afo : trR Tryd.prog Tryd.f19.results.toList = some AaT := by kernel_rfl
def ZK := Ac V3.eq_1
def ZG := Ac WO.eq_1
def Aca := Ac Aat.eq_1
theorem AcE {K : TV → Prop} {e : Env} {H : List Ob} : res AaT e H K = res [.tmp 4, .tmp 5] e H K := Aa rfl
def Lc := (And.intro (And.intro @ZK @ZG) (And.intro @Aca @AcE))
def Ad9 := DN 24 Tryd.func19 AfH Afo rfl

def F9 : Af := .seq (.ops [mv_ 29 5,
  po_ 30 (.load true 20 (.t 7)),
  po_ 31 (.build [] [] []),
  ⟨none, .s (.mupd (.arr 20) (.t 29) (.t 30) (.t 31)), none⟩] [0, 5, 6, 7])
 (.draw 5 [mv_ 32 6,
  mv_ 33 0,
  po_ 34 (.nilc (.t 33)),
  po_ 35 (.fieldA 0 0 (.t 34)),
  po_ 36 (.load false 1 (.t 35)),
  po_ 37 (.load true 20 (.t 7)),
  po_ 38 (.gen (.look (.arr 20) (.agg [.arr 20 1 [.val (.int .u8 ((0 : Nat) : Int)), .val (.int .u8 ((0 : Nat) : Int)), .val (.int .u8 ((0 : Nat) : Int)), .val (.int .u8 ((0 : Nat) : Int)), .val (.int .u8 ((0 : Nat) : Int)), .val (.int .u8 ((0 : Nat) : Int)), .val (.int .u8 ((0 : Nat) : Int)), .val (.int .u8 ((0 : Nat) : Int)), .val (.int .u8 ((0 : Nat) : Int)), .val (.int .u8 ((0 : Nat) : Int)), .val (.int .u8 ((0 : Nat) : Int)), .val (.int .u8 ((0 : Nat) : Int)), .val (.int .u8 ((0 : Nat) : Int)), .val (.int .u8 ((0 : Nat) : Int)), .val (.int .u8 ((0 : Nat) : Int)), .val (.int .u8 ((0 : Nat) : Int)), .val (.int .u8 ((0 : Nat) : Int)), .val (.int .u8 ((0 : Nat) : Int)), .val (.int .u8 ((0 : Nat) : Int)), .val (.int .u8 ((0 : Nat) : Int))], .val (.slice none 0 0), .val (.int .i64 ((0 : Nat) : Int))]) false) [.t 36, .t 37]),
  po_ 39 (.field false 1 1 20 (.t 38)),
  so_ 40 (.app 20 20 40 (.t 32) (.t 39)),
  mv_ 6 40] [0, 5, 6])
def Gl : Af := .cond (.t 28)
 F9
 (.skip)
def F5 : Af := .seq (.ops [mv_ 25 5,
  po_ 26 (.load true 20 (.t 7)),
  so_ 27 (.call 25 [.t 25, .t 26]),
  po_ 28 (.un .not (.t 27))] [0, 5, 6, 7, 28])
 Gl
def FY : Af := .seq (.ops [mv_ 20 6,
  mv_ 21 6,
  po_ 22 (.lenV (.t 21)),
  po_ 23 (.bin 3 .sub (.t 22) (ci_ 1)),
  po_ 24 (.slV 20 (.t 20) none (some (.t 23))),
  mv_ 6 24] [0, 5, 6, 7])
 F5
def FZ : Af := .block 1 (.seq (.ops [mv_ 14 6,
  mv_ 15 6,
  po_ 16 (.lenV (.t 15)),
  po_ 17 (.bin 3 .sub (.t 16) (ci_ 1)),
  po_ 18 (.idxA 20 (.t 14) (.t 17)),
  po_ 19 (.load true 20 (.t 18)),
  so_ 7 (.alloc (.arr 20 1 [.val (.int .u8 ((0 : Nat) : Int)), .val (.int .u8 ((0 : Nat) : Int)), .val (.int .u8 ((0 : Nat) : Int)), .val (.int .u8 ((0 : Nat) : Int)), .val (.int .u8 ((0 : Nat) : Int)), .val (.int .u8 ((0 : Nat) : Int)), .val (.int .u8 ((0 : Nat) : Int)), .val (.int .u8 ((0 : Nat) : Int)), .val (.int .u8 ((0 : Nat) : Int)), .val (.int .u8 ((0 : Nat) : Int)), .val (.int .u8 ((0 : Nat) : Int)), .val (.int .u8 ((0 : Nat) : Int)), .val (.int .u8 ((0 : Nat) : Int)), .val (.int .u8 ((0 : Nat) : Int)), .val (.int .u8 ((0 : Nat) : Int)), .val (.int .u8 ((0 : Nat) : Int)), .val (.int .u8 ((0 : Nat) : Int)), .val (.int .u8 ((0 : Nat) : Int)), .val (.int .u8 ((0 : Nat) : Int)), .val (.int .u8 ((0 : Nat) : Int))])),
  ⟨none, .s (.store 20 (.t 7) (.t 19)), none⟩] [0, 5, 6, 7])
 FY)
def DV : Af := .seq (.seq (.ops [mv_ 11 6,
  po_ 12 (.lenV (.t 11)),
  po_ 13 (.bin 3 .gtr (.t 12) (ci_ 0))] [0, 5, 6, 13])
 (.cond (.t 13)
 (.skip)
 (.exit 0)))
 FZ
def DX : Af := .seq (.ops [mv_ 41 5,
  mv_ 4 41] [4])
 (.ret)
def Gh : Af := .seq (.block 0 (.own 6 20 (.loop [0, 5, 6] DV)))
 DX
def F8 : Af := .seq (.ops [mv_ 9 1,
  so_ 10 (.call 38 [.t 9]),
  mv_ 6 10] [0, 5, 6])
 Gh
def FB : Af := .seq (.ops [so_ 8 (.mkm (.arr 20) none),
  mv_ 5 8] [0, 1, 5])
 F8
def Jd : Af := .seq (.ops [po_ 4 (.mov (.c (.map none)))] [0, 1])
 FB
def ED : List VR := [.tmp 4]
theorem TZ : Tryd.f21.body.bind (trC Tryd.prog Tryd.f21.ntmps) = some (er Jd) := by kernel_rfl
theorem Ue : trR Tryd.prog Tryd.f21.results.toList = some ED := by kernel_rfl
def LG := Ac F9.eq_1
def KY := Ac Gl.eq_1
def JZ := Ac F5.eq_1
def LQ := Ac FY.eq_1
def Kr := Ac FZ.eq_1
def J9 := Ac DV.eq_1
def LV := Ac DX.eq_1
def KI := Ac Gh.eq_1
def KG := Ac F8.eq_1
def JV := Ac FB.eq_1
def RH := Ac Jd.eq_1
theorem QA {K : TV → Prop} {e : Env} {H : List Ob} : res ED e H K = res [.tmp 4] e H K := Aa rfl
def Bl := (And.intro (And.intro (And.intro (And.intro @LG @KY) (And.intro @JZ @LQ)) (And.intro (And.intro @Kr @J9) (And.intro @LV @KI))) (And.intro (And.intro @KG @JV) (And.intro @RH @QA)))
def SH := DN 42 Tryd.func21 TZ Ue rfl


def RF : Af := .seq (.ops [so_ 3 (.box (.t 1)),
  po_ 4 (.mov (.c (.bool false)))] [0, 3])
 (.seq (.ops [mv_ 8 0,
  po_ 9 (.load true 20 (.t 3)),
  po_ 10 (.gen (.look (.arr 20) (.agg []) true) [.t 8, .t 9]),
  mv_ 7 10,
  po_ 11 (.ext 0 (.t 7)),
  po_ 12 (.ext 1 (.t 7)),
  so_ 5 (.alloc (.agg [])),
  ⟨none, .s (.store 0 (.t 5) (.t 11)), none⟩,
  mv_ 6 12] [6])
 (.seq (.ops [mv_ 13 6,
  mv_ 4 13] [4])
 (.ret)))
def Rj : List VR := [.tmp 4]
theorem Zz : Tryd.f25.body.bind (trC Tryd.prog Tryd.f25.ntmps) = some (er RF) := by kernel_rfl
theorem ZE : trR Tryd.prog Tryd.f25.results.toList = some Rj := by kernel_rfl
def Xr := Ac RF.eq_1
theorem XW {K : TV → Prop} {e : Env} {H : List Ob} : res Rj e H K = res [.tmp 4] e H K := Aa rfl
def FN := (And.intro @Xr @XW)
def Oi := DN 14 Tryd.func25 Zz ZE rfl

def IA : Af := .seq (.ops [so_ 2 (.box (.t 0)),
  po_ 4 (.mov (.c (.bool false)))] [1, 2])
 (.seq (.ops [mv_ 5 1,
  po_ 6 (.mkf (.func 51) [] [.t 2]),
  so_ 7 (.call 50 [.t 5, .t 6]),
  po_ 8 (.un .not (.t 7)),
  mv_ 4 8] [4])
 (.ret))
def IY : List VR := [.tmp 4]
theorem TI : Tryd.f36.body.bind (trC Tryd.prog Tryd.f36.ntmps) = some (er IA) := by kernel_rfl
theorem UJ : trR Tryd.prog Tryd.f36.results.toList = some IY := by kernel_rfl
def Rw := Ac IA.eq_1
theorem RG {K : TV → Prop} {e : Env} {H : List Ob} : res IY e H K = res [.tmp 4] e H K := Aa rfl
def IR := (And.intro @Rw @RG)
def RZ := DN 9 Tryd.func36 TI UJ rfl

def EQ : Af := .seq (.draw 9 [po_ 7 (.load false 1 (.t 1)),
  po_ 8 (.nilc (.t 7)),
  po_ 9 (.fieldA 0 0 (.t 8)),
  po_ 10 (.load false 1 (.t 9)),
  po_ 11 (.load true 20 (.t 2)),
  po_ 12 (.gen (.look (.arr 20) (.agg [.arr 20 1 [.val (.int .u8 ((0 : Nat) : Int)), .val (.int .u8 ((0 : Nat) : Int)), .val (.int .u8 ((0 : Nat) : Int)), .val (.int .u8 ((0 : Nat) : Int)), .val (.int .u8 ((0 : Nat) : Int)), .val (.int .u8 ((0 : Nat) : Int)), .val (.int .u8 ((0 : Nat) : Int)), .val (.int .u8 ((0 : Nat) : Int)), .val (.int .u8 ((0 : Nat) : Int)), .val (.int .u8 ((0 : Nat) : Int)), .val (.int .u8 ((0 : Nat) : Int)), .val (.int .u8 ((0 : Nat) : Int)), .val (.int .u8 ((0 : Nat) : Int)), .val (.int .u8 ((0 : Nat) : Int)), .val (.int .u8 ((0 : Nat) : Int)), .val (.int .u8 ((0 : Nat) : Int)), .val (.int .u8 ((0 : Nat) : Int)), .val (.int .u8 ((0 : Nat) : Int)), .val (.int .u8 ((0 : Nat) : Int)), .val (.int .u8 ((0 : Nat) : Int))], .val (.slice none 0 0), .val (.int .i64 ((0 : Nat) : Int))]) true) [.t 10, .t 11]),
  mv_ 6 12,
  po_ 13 (.ext 0 (.t 6)),
  po_ 14 (.ext 1 (.t 6)),
  so_ 4 (.alloc (.agg [.arr 20 1 [.val (.int .u8 ((0 : Nat) : Int)), .val (.int .u8 ((0 : Nat) : Int)), .val (.int .u8 ((0 : Nat) : Int)), .val (.int .u8 ((0 : Nat) : Int)), .val (.int .u8 ((0 : Nat) : Int)), .val (.int .u8 ((0 : Nat) : Int)), .val (.int .u8 ((0 : Nat) : Int)), .val (.int .u8 ((0 : Nat) : Int)), .val (.int .u8 ((0 : Nat) : Int)), .val (.int .u8 ((0 : Nat) : Int)), .val (.int .u8 ((0 : Nat) : Int)), .val (.int .u8 ((0 : Nat) : Int)), .val (.int .u8 ((0 : Nat) : Int)), .val (.int .u8 ((0 : Nat) : Int)), .val (.int .u8 ((0 : Nat) : Int)), .val (.int .u8 ((0 : Nat) : Int)), .val (.int .u8 ((0 : Nat) : Int)), .val (.int .u8 ((0 : Nat) : Int)), .val (.int .u8 ((0 : Nat) : Int)), .val (.int .u8 ((0 : Nat) : Int))], .val (.slice none 0 0), .val (.int .i64 ((0 : Nat) : Int))])),
  ⟨none, .s (.store 22 (.t 4) (.t 13)), none⟩,
  mv_ 5 14] [5])
 (.seq (.ops [mv_ 15 5,
  po_ 16 (.un .not (.t 15)),
  mv_ 3 16] [3])
 (.ret))
def HY : Af := .seq (.ops [so_ 2 (.box (.t 0)),
  po_ 3 (.mov (.c (.bool false)))] [1, 2])
 EQ
def Hw : List VR := [.tmp 3]
theorem Qd : Tryd.f51.body.bind (trC Tryd.prog Tryd.f51.ntmps) = some (er HY) := by kernel_rfl
theorem Q3 : trR Tryd.prog Tryd.f51.results.toList = some Hw := by kernel_rfl
def Jg := Ac EQ.eq_1
def Ny := Ac HY.eq_1
theorem Nq {K : TV → Prop} {e : Env} {H : List Ob} : res Hw e H K = res [.tmp 3] e H K := Aa rfl
def Ha := (And.intro (And.intro @Jg @Ny) @Nq)
def PH := DN 17 Tryd.func51 Qd Q3 rfl

def Lu : Af := .seq (.opsZ [mv_ 26 0,
  po_ 27 (.load true 20 (.t 4)),
  ⟨some 28, .s (.bslice 20 1 (.arr 20 1 [.val (.int .u8 ((0 : Nat) : Int)), .val (.int .u8 ((0 : Nat) : Int)), .val (.int .u8 ((0 : Nat) : Int)), .val (.int .u8 ((0 : Nat) : Int)), .val (.int .u8 ((0 : Nat) : Int)), .val (.int .u8 ((0 : Nat) : Int)), .val (.int .u8 ((0 : Nat) : Int)), .val (.int .u8 ((0 : Nat) : Int)), .val (.int .u8 ((0 : Nat) : Int)), .val (.int .u8 ((0 : Nat) : Int)), .val (.int .u8 ((0 : Nat) : Int)), .val (.int .u8 ((0 : Nat) : Int)), .val (.int .u8 ((0 : Nat) : Int)), .val (.int .u8 ((0 : Nat) : Int)), .val (.int .u8 ((0 : Nat) : Int)), .val (.int .u8 ((0 : Nat) : Int)), .val (.int .u8 ((0 : Nat) : Int)), .val (.int .u8 ((0 : Nat) : Int)), .val (.int .u8 ((0 : Nat) : Int)), .val (.int .u8 ((0 : Nat) : Int))]) [⟨0, .t 27⟩]), none⟩] [28] [so_ 29 (.call 29 [.t 26, .t 28]),
  mv_ 9 29] [0, 5, 9])
 (.seq (.ops [mv_ 30 9,
  mv_ 31 0,
  po_ 32 (.load true 20 (.t 5)),
  so_ 33 (.call 32 [.t 31, .t 32]),
  po_ 34 (.idxA 1 (.t 30) (.t 33)),
  po_ 35 (.load false 1 (.t 34)),
  mv_ 6 35,
  po_ 7 (.mov (ci_ 0))] [6, 7])
 (.ret))
def Me : Af := .seq (.seq (.ops [mv_ 12 8,
  po_ 13 (.bin 3 .neq (.t 12) (ci_ 0)),
  mv_ 14 13,
  ⟨some 15, .p (.mov (.t 0)), some ⟨14, false⟩⟩,
  ⟨some 16, .p (.load true 20 (.t 4)), some ⟨14, false⟩⟩,
  ⟨some 17, .s (.call 32 [.t 15, .t 16]), some ⟨14, false⟩⟩,
  ⟨some 18, .p (.bin 3 .lss (.t 17) (ci_ 0)), some ⟨14, false⟩⟩,
  po_ 19 (.pick (.t 14) (.c (.bool true)) (.t 18)),
  mv_ 20 19,
  ⟨some 21, .p (.mov (.t 0)), some ⟨20, false⟩⟩,
  ⟨some 22, .p (.load true 20 (.t 5)), some ⟨20, false⟩⟩,
  ⟨some 23, .s (.call 32 [.t 21, .t 22]), some ⟨20, false⟩⟩,
  ⟨some 24, .p (.bin 3 .lss (.t 23) (ci_ 0)), some ⟨20, false⟩⟩,
  po_ 25 (.pick (.t 20) (.c (.bool true)) (.t 24))] [0, 4, 5, 25])
 (.cond (.t 25)
 (.seq (.ops [po_ 6 (.mov (.c (.bool false))),
   po_ 7 (.mov (ci_ 80))] [6, 7])
  (.ret))
 (.skip)))
 Lu
def LK : Af := .seq (.ops [mv_ 10 0,
  so_ 11 (.call 27 [.t 10]),
  mv_ 8 11] [0, 4, 5, 8])
 Me
def Td : Af := .seq (.ops [so_ 4 (.box (.t 1)),
  so_ 5 (.box (.t 2)),
  po_ 6 (.mov (.c (.bool false))),
  po_ 7 (.mov (ci_ 0))] [0, 4, 5])
 LK
def Tv : List VR := [.tmp 6, .tmp 7]
theorem Aag : Tryd.f14.body.bind (trC Tryd.prog Tryd.f14.ntmps) = some (er Td) := by kernel_rfl
theorem Aad : trR Tryd.prog Tryd.f14.results.toList = some Tv := by kernel_rfl
def Um := Ac Lu.eq_1
def TU := Ac Me.eq_1
def Ui := Ac LK.eq_1
def YH := Ac Td.eq_1
theorem YG {K : TV → Prop} {e : Env} {H : List Ob} : res Tv e H K = res [.tmp 6, .tmp 7] e H K := Aa rfl
def BD := (And.intro (And.intro (And.intro @Um @TU) (And.intro @Ui @YH)) @YG)
def Zx := DN 36 Tryd.func14 Aag Aad rfl



def Q5 : Af := .seq (.seq (.ops [mv_ 6 5,
  mv_ 7 1,
  po_ 8 (.lenV (.t 7)),
  po_ 9 (.bin 3 .lss (.t 6) (.t 8))] [0, 1, 5, 9])
 (.cond (.t 9)
 (.skip)
 (.exit 0)))
 (.seq (.block 1 (.seq (.ops [mv_ 12 0,
  mv_ 13 1,
  mv_ 14 5,
  po_ 15 (.idxA 20 (.t 13) (.t 14)),
  po_ 16 (.load true 20 (.t 15)),
  so_ 17 (.call 32 [.t 12, .t 16]),
  po_ 18 (.bin 3 .lss (.t 17) (ci_ 0))] [0, 1, 5, 18])
 (.cond (.t 18)
 (.seq (.ops [po_ 4 (.mov (.c (.bool false)))] [4])
  (.ret))
 (.skip))))
 (.ops [mv_ 10 5,
  po_ 11 (.bin 3 .add (.t 10) (ci_ 1)),
  mv_ 5 11] [0, 1, 5]))
def P7 : Af := .block 0 (.loop [0, 1, 5] Q5)
def QB : Af := .seq (.ops [po_ 4 (.mov (.c (.bool true)))] [4])
 (.ret)
def Qo : Af := .seq (.seq (.ops [po_ 5 (.mov (ci_ 0))] [0, 1, 5])
 P7)
 QB
def Yl : Af := .seq (.ops [po_ 4 (.mov (.c (.bool false)))] [0, 1])
 Qo
def Yu : List VR := [.tmp 4]
theorem Ab2 : Tryd.f28.body.bind (trC Tryd.prog Tryd.f28.ntmps) = some (er Yl) := by kernel_rfl
theorem Ac2 : trR Tryd.prog Tryd.f28.results.toList = some Yu := by kernel_rfl
def Xp := Ac Q5.eq_1
def XM := Ac P7.eq_1
def X3 := Ac QB.eq_1
def Xu := Ac Qo.eq_1
def ZZ := Ac Yl.eq_1
theorem Aap {K : TV → Prop} {e : Env} {H : List Ob} : res Yu e H K = res [.tmp 4] e H K := Aa rfl
def Hg := (And.intro (And.intro (And.intro @Xp @XM) (And.intro @X3 @Xu)) (And.intro @ZZ @Aap))
def Abh := DN 19 Tryd.func28 Ab2 Ac2 rfl



def Tz : Af := .seq (.block 1 (.seq (.draw 4 [mv_ 17 0,
  mv_ 18 5,
  po_ 19 (.idxA 20 (.t 17) (.t 18)),
  po_ 20 (.load true 20 (.t 19)),
  mv_ 21 1,
  mv_ 22 5,
  po_ 23 (.idxA 20 (.t 21) (.t 22)),
  po_ 24 (.load true 20 (.t 23)),
  po_ 25 (.gen (.eqA 20 true) [.t 20, .t 24])] [0, 1, 5, 25])
 (.cond (.t 25)
 (.seq (.ops [po_ 4 (.mov (.c (.bool false)))] [4])
  (.ret))
 (.skip))))
 (.ops [mv_ 15 5,
  po_ 16 (.bin 3 .add (.t 15) (ci_ 1)),
  mv_ 5 16] [0, 1, 5])
def TF : Af := .seq (.seq (.ops [mv_ 11 5,
  mv_ 12 0,
  po_ 13 (.lenV (.t 12)),
  po_ 14 (.bin 3 .lss (.t 11) (.t 13))] [0, 1, 5, 14])
 (.cond (.t 14)
 (.skip)
 (.exit 0)))
 Tz
def Ti : Af := .block 0 (.loop [0, 1, 5] TF)
def TE : Af := .seq (.ops [po_ 4 (.mov (.c (.bool true)))] [4])
 (.ret)
def SV : Af := .seq (.seq (.ops [po_ 5 (.mov (ci_ 0))] [0, 1, 5])
 Ti)
 TE
def SY : Af := .seq (.seq (.ops [mv_ 6 0,
  po_ 7 (.lenV (.t 6)),
  mv_ 8 1,
  po_ 9 (.lenV (.t 8)),
  po_ 10 (.bin 3 .neq (.t 7) (.t 9))] [0, 1, 10])
 (.cond (.t 10)
 (.seq (.ops [po_ 4 (.mov (.c (.bool false)))] [4])
  (.ret))
 (.skip)))
 SV
def Zi : Af := .seq (.ops [po_ 4 (.mov (.c (.bool false)))] [0, 1])
 SY
def Y8 : List VR := [.tmp 4]
theorem AdS : Tryd.f11.body.bind (trC Tryd.prog Tryd.f11.ntmps) = some (er Zi) := by kernel_rfl
theorem AdV : trR Tryd.prog Tryd.f11.results.toList = some Y8 := by kernel_rfl
def YO := Ac Tz.eq_1
def YF := Ac TF.eq_1
def YC := Ac Ti.eq_1
def YR := Ac TE.eq_1
def YI := Ac SV.eq_1
def YS := Ac SY.eq_1
def Abu := Ac Zi.eq_1
theorem Abe {K : TV → Prop} {e : Env} {H : List Ob} : res Y8 e H K = res [.tmp 4] e H K := Aa rfl
def IX := (And.intro (And.intro (And.intro @YO @YF) (And.intro @YC @YR)) (And.intro (And.intro @YI @YS) (And.intro @Abu @Abe)))
def YB := DN 26 Tryd.func11 AdS AdV rfl

def D5 : Af := .seq (.ops [po_ 2 (.mov (.c (.slice none 0 0)))] [0])
 (.seq (.seq (.ops [mv_ 3 0,
  so_ 4 (.eqS (.t 3) false)] [0, 4])
 (.cond (.t 4)
 (.seq (.ops [po_ 2 (.mov (.c (.slice none 0 0)))] [2])
  (.ret))
 (.skip)))
 (.seq (.ops [so_ 5 (.bslice 20 0 (.arr 20 1 [.val (.int .u8 ((0 : Nat) : Int)), .val (.int .u8 ((0 : Nat) : Int)), .val (.int .u8 ((0 : Nat) : Int)), .val (.int .u8 ((0 : Nat) : Int)), .val (.int .u8 ((0 : Nat) : Int)), .val (.int .u8 ((0 : Nat) : Int)), .val (.int .u8 ((0 : Nat) : Int)), .val (.int .u8 ((0 : Nat) : Int)), .val (.int .u8 ((0 : Nat) : Int)), .val (.int .u8 ((0 : Nat) : Int)), .val (.int .u8 ((0 : Nat) : Int)), .val (.int .u8 ((0 : Nat) : Int)), .val (.int .u8 ((0 : Nat) : Int)), .val (.int .u8 ((0 : Nat) : Int)), .val (.int .u8 ((0 : Nat) : Int)), .val (.int .u8 ((0 : Nat) : Int)), .val (.int .u8 ((0 : Nat) : Int)), .val (.int .u8 ((0 : Nat) : Int)), .val (.int .u8 ((0 : Nat) : Int)), .val (.int .u8 ((0 : Nat) : Int))]) []),
  mv_ 6 0,
  so_ 7 (.app 20 20 40 (.t 5) (.t 6)),
  mv_ 2 7] [2])
 (.ret)))
def DZ : List VR := [.tmp 2]
theorem Ip : Tryd.f38.body.bind (trC Tryd.prog Tryd.f38.ntmps) = some (er D5) := by kernel_rfl
theorem Io : trR Tryd.prog Tryd.f38.results.toList = some DZ := by kernel_rfl
def Hf := Ac D5.eq_1
theorem G7 {K : TV → Prop} {e : Env} {H : List Ob} : res DZ e H K = res [.tmp 2] e H K := Aa rfl
def Bz := (And.intro @Hf @G7)
def H6 := DN 8 Tryd.func38 Ip Io rfl



def Cm : Af := .seq (.ops [po_ 4 (.mov (.c (.bool false)))] [0, 1])
 (.seq (.ops [mv_ 5 0,
  mv_ 6 1,
  so_ 7 (.call 58 [.t 5, .t 6]),
  po_ 8 (.bin 3 .geq (.t 7) (ci_ 0)),
  mv_ 4 8] [4])
 (.ret))
def Ce : List VR := [.tmp 4]
theorem EE : Tryd.f50.body.bind (trC Tryd.prog Tryd.f50.ntmps) = some (er Cm) := by kernel_rfl
theorem EJ : trR Tryd.prog Tryd.f50.results.toList = some Ce := by kernel_rfl
def Em := Ac Cm.eq_1
theorem Ei {K : TV → Prop} {e : Env} {H : List Ob} : res Ce e H K = res [.tmp 4] e H K := Aa rfl
def Bj := (And.intro @Em @Ei)
def Es := DN 9 Tryd.func50 EE EJ rfl

def CB : Af := .seq (.ops [po_ 9 (.bin 3 .lss (.t 8) (.t 7))] [0, 1, 7, 8, 9])
 (.seq (.cond (.t 9)
 (.skip)
 (.exit 0))
 (.seq (.block 1 (.seq (.ops [mv_ 10 8,
  mv_ 5 10] [0, 1, 5, 7, 8])
 (.seq (.ops [mv_ 11 1,
  mv_ 12 0,
  mv_ 13 5,
  po_ 14 (.idxA 20 (.t 12) (.t 13)),
  po_ 15 (.load true 20 (.t 14)),
  so_ 16 (.callv (.t 11) [.t 15])] [0, 1, 5, 7, 8, 16])
 (.cond (.t 16)
 (.seq (.ops [mv_ 17 5,
   mv_ 4 17] [4])
  (.ret))
 (.skip)))))
 (.ops [po_ 18 (.bin 3 .add (.t 8) (ci_ 1)),
  mv_ 8 18] [0, 1, 7, 8])))
def Cf : Af := .block 0 (.loop [0, 1, 7, 8] CB)
def CG : Af := .seq (.ops [po_ 4 (.mov (.c (.int .i64 (-1))))] [4])
 (.ret)
def Ci : Af := .seq (.seq (.ops [mv_ 6 0,
  po_ 7 (.lenV (.t 6)),
  po_ 8 (.mov (ci_ 0))] [0, 1, 7, 8])
 Cf)
 CG
def Dp : Af := .seq (.ops [po_ 4 (.mov (ci_ 0))] [0, 1])
 Ci
def Dk : List VR := [.tmp 4]
theorem FU : Tryd.f58.body.bind (trC Tryd.prog Tryd.f58.ntmps) = some (er Dp) := by kernel_rfl
theorem FX : trR Tryd.prog Tryd.f58.results.toList = some Dk := by kernel_rfl
def Ej := Ac CB.eq_1
def Eg := Ac Cf.eq_1
def Eh := Ac CG.eq_1
def En := Ac Ci.eq_1
def E9 := Ac Dp.eq_1
theorem Fg {K : TV → Prop} {e : Env} {H : List Ob} : res Dk e H K = res [.tmp 4] e H K := Aa rfl
def AV := (And.intro (And.intro (And.intro @Ej @Eg) (And.intro @Eh @En)) (And.intro @E9 @Fg))
def FM := DN 19 Tryd.func58 FU FX rfl

end Go.Proofs.YtingoaihnlhiaaaDoor


namespace Go.Proofs.YtingoaihnlhiaaaDoor
open Go.RowKit
variable [A7]
set_option linter.unusedSectionVars false
set_option linter.unusedVariables false
set_option linter.unusedSimpArgs false

/-- Is it the id of a node? -/
def Aab (l : List Nd) (x : List UInt8) : Bool := (AA l).contains x
theorem FD {l : List Nd} {x : List UInt8} : Aab l x = true ↔ x ∈ AA l := by simp [Aab]
theorem Au {α : Type} {H : List α} {i : Nat} {o : α} (h : H[i]? = some o) : i < H.length := (List.getElem?_eq_some_iff.1 h).1
theorem QW {l : List Nd} (hn : (AA l).Nodup) (x : List UInt8) : (Fb x (AY l)).isSome = Aab l x := by
 by_cases hx : x ∈ AA l
 ·obtain ⟨m, hm, rfl⟩ := List.mem_map.1 hx
  rw [Eu hn hm, (FD).2 hx]; rfl
 ·rw [Zf hx hn]
  cases h : Aab l x with
  | false => rfl
  | true => exact absurd (FD.1 h) hx

theorem Amz {l : List Nd} (hn : (AA l).Nodup) {H : List Ob} {c gi mi : Nat} (hc : H[c]? = some (.obj 0 (.op gi 0 []))) (hg : H[gi]? = some (.obj 0 (.agg [.mp mi 0, .val (.map none)]))) (hm : H[mi]? = some (.mpo (.arr 20) (AY l))) (x : List UInt8) {K : TV → List Ob → Prop}
  (hK : ∀ T, K (tb (!Aab l x)) (H ++ T)) : Aq Tryd.prog 51 [idT x, .op c 0 []] H K := by
 have h1 := Au hc
 have h2 := Au hg
 have h3 := Au hm
 have h4 := QW hn x
 refine PH (by simp) ?_
 cases hl : Fb x (AY l) with
 | none =>
  rw [hl] at h4
  simp -dsimp (disch := first | assumption | omega | (simp only [Ae]; done) | (simp only [Ae]; omega)) only [↓Ag, Ad, Ai, Ah, eq_self, forall_const, Nat.reduceLT, Nat.reduceEqDiff, Nat.reduceSub, Nat.reduceMul, Nat.reduceMod, Nat.reduceDiv, Nat.reducePow, UInt8.reduceToNat, Int.reduceEq, Int.reduceLT, Int.reduceLE, ↓reduceIte, Nat.reduceAdd, Int.reduceToNat, reduceCtorEq, Nat.reduceLeDiff, ↓Ha, hc, hg, hm, AZ, hl]
  rw [← h4] at hK
  simp only [List.append_assoc]
  exact hK _
 | some y =>
  rw [hl] at h4
  have hy : ∃ n : Nd, y = ndT n := by
   by_cases hx : x ∈ AA l
   ·obtain ⟨m, hm, rfl⟩ := List.mem_map.1 hx
    rw [Eu hn hm] at hl; cases hl; exact ⟨m, rfl⟩
   ·rw [Zf hx hn] at hl; cases hl
  obtain ⟨n, rfl⟩ := hy
  simp -dsimp (disch := first | assumption | omega | (simp only [Ae]; done) | (simp only [Ae]; omega)) only [↓Ag, Ad, Ai, Ah, eq_self, forall_const, Nat.reduceLT, Nat.reduceEqDiff, Nat.reduceSub, Nat.reduceMul, Nat.reduceMod, Nat.reduceDiv, Nat.reducePow, UInt8.reduceToNat, Int.reduceEq, Int.reduceLT, Int.reduceLE, ↓reduceIte, Nat.reduceAdd, Int.reduceToNat, reduceCtorEq, Nat.reduceLeDiff, ↓Ha, hc, hg, hm, AZ, hl, AP]
  rw [← h4] at hK
  simp only [List.append_assoc]
  exact hK _

theorem Ae0 {α : Type} {ids : List α} {p : α → Bool} {i : Nat} {x : α} (hg : ids[i]? = some x) (h : ∀ y ∈ ids.take i, p y = false) (hp : p x = true) : ids.findIdx p = i ∧ ids.any p = true := by
 obtain ⟨hi, rfl⟩ := List.getElem?_eq_some_iff.1 hg
 refine ⟨(List.findIdx_eq hi).2 ⟨hp, fun j hj => h _ ?_⟩, List.any_eq_true.2 ⟨_, List.getElem_mem hi, hp⟩⟩
 rw [List.mem_take_iff_getElem]
 exact ⟨j, by omega, rfl⟩
/-- slices.IndexFunc, slices.ContainsFunc: the function is asked of one behind the other; it leaves what was there aS it was. -/
theorem AeO {ids : List (List UInt8)} (hlen : ids.length ≤ 100000) {p : List UInt8 → Bool} {H : List Ob} {g : FuncId} {a caps : List TV} (hgo : Tj Tryd.prog g = true) (hp : ∀ x ∈ ids, ∀ T K, (∀ T', K (tb (p x)) (H ++ T ++ T')) → Aq Tryd.prog g (a ++ [idT x] ++ caps) (H ++ T) K) {K : TV → List Ob → Prop}
  (hK : ∀ T, K (i64 (if ids.any p then ((ids.findIdx p : Nat) : Int) else -1)) (H ++ T)) : Aq Tryd.prog 58 [.sl 20 (ids.map idT), .fn (.func g) a caps] H K := by
 refine FM (by simp) ?_
 simp -dsimp (disch := first | assumption | omega) only [↓Ag, Ad, Ai, Ah, eq_self, forall_const, Nat.reduceLT, Nat.reduceEqDiff, Nat.reduceSub, Nat.reduceMul, Nat.reduceMod, Nat.reduceDiv, Nat.reducePow, UInt8.reduceToNat, Int.reduceEq, Int.reduceLT, Int.reduceLE, ↓reduceIte, Nat.reduceAdd, Int.reduceToNat, reduceCtorEq, Nat.reduceLeDiff, ↓AV]
 refine BG (fun q e H' => ∃ (i : Nat) (T : List Ob), q = ids.length - i ∧ i ≤ ids.length ∧ (∀ x ∈ ids.take i, p x = false) ∧ e = [(0, .sl 20 (ids.map idT)), (1, .fn (.func g) a caps), (7, i64 (ids.length : Int)), (8, i64 (i : Int))] ∧ H' = H ++ T) ids.length ?_ ?_
 ·exact ⟨0, [], by simp, by simp, by simp, rfl, by simp⟩
 ·rintro q e H' ⟨i, T, rfl, hi, hno, rfl, rfl⟩
  by_cases h : i < ids.length
  ·have hg : ids[i]? = some ids[i] := List.getElem?_eq_getElem h
   have hsucc := List.take_succ_eq_append_getElem h
   have hpx := hp ids[i] (List.getElem_mem h) T
   generalize ids[i] = x at *
   simp -dsimp (disch := first | assumption | omega | (simp only [Ae]; done) | (simp only [Ae]; omega)) only [↓Ag, Ad, Ai, Ah, eq_self, forall_const, Nat.reduceLT, Nat.reduceEqDiff, Nat.reduceSub, Nat.reduceMul, Nat.reduceMod, Nat.reduceDiv, Nat.reducePow, UInt8.reduceToNat, Int.reduceEq, Int.reduceLT, Int.reduceLE, ↓reduceIte, Nat.reduceAdd, Int.reduceToNat, reduceCtorEq, Nat.reduceLeDiff, ↓AV, hg, hgo, PL, MQ, FQ]
   refine Ea (hpx _ fun T' => ?_)
   by_cases hpt : p x = true
   ·rw [hpt]
    simp -dsimp (disch := first | assumption | omega | (simp only [Ae]; done) | (simp only [Ae]; omega)) only [↓Ag, Ad, Ai, Ah, eq_self, forall_const, Nat.reduceLT, Nat.reduceEqDiff, Nat.reduceSub, Nat.reduceMul, Nat.reduceMod, Nat.reduceDiv, Nat.reducePow, UInt8.reduceToNat, Int.reduceEq, Int.reduceLT, Int.reduceLE, ↓reduceIte, Nat.reduceAdd, Int.reduceToNat, reduceCtorEq, Nat.reduceLeDiff, ↓AV]
    obtain ⟨e1, e2⟩ := Ae0 hg hno hpt
    rw [if_pos e2, e1] at hK
    simp only [List.append_assoc]
    exact hK _
   ·have hpf : p x = false := by simpa using hpt
    rw [hpf]
    simp -dsimp (disch := first | assumption | omega | (simp only [Ae]; done) | (simp only [Ae]; omega)) only [↓Ag, Ad, Ai, Ah, eq_self, forall_const, Nat.reduceLT, Nat.reduceEqDiff, Nat.reduceSub, Nat.reduceMul, Nat.reduceMod, Nat.reduceDiv, Nat.reducePow, UInt8.reduceToNat, Int.reduceEq, Int.reduceLT, Int.reduceLE, ↓reduceIte, Nat.reduceAdd, Int.reduceToNat, reduceCtorEq, Nat.reduceLeDiff, ↓AV]
    refine Az (ids.length - (i + 1)) (by omega) (by simp) ⟨i + 1, T ++ T', rfl, by omega, fun y hy => ?_, by simp [forget, get], by simp⟩
    rw [hsucc, List.mem_append, List.mem_singleton] at hy
    rcases hy with hy | rfl
    ·exact hno y hy
    ·exact hpf
  ·have hi2 : i = ids.length := by omega
   subst hi2
   rw [List.take_length] at hno
   simp -dsimp (disch := first | assumption | omega | (simp only [Ae]; done) | (simp only [Ae]; omega)) only [↓Ag, Ad, Ai, Ah, eq_self, forall_const, Nat.reduceLT, Nat.reduceEqDiff, Nat.reduceSub, Nat.reduceMul, Nat.reduceMod, Nat.reduceDiv, Nat.reducePow, UInt8.reduceToNat, Int.reduceEq, Int.reduceLT, Int.reduceLE, ↓reduceIte, Nat.reduceAdd, Int.reduceToNat, reduceCtorEq, Nat.reduceLeDiff, ↓AV]
   have hany : ¬ ids.any p = true := by
    rw [List.any_eq_true]
    rintro ⟨y, hy, h⟩
    rw [hno y hy] at h; cases h
   rw [if_neg hany] at hK
   exact hK _
theorem AbK {ids : List (List UInt8)} (hlen : ids.length ≤ 100000) {p : List UInt8 → Bool} {H : List Ob} {g : FuncId} {a caps : List TV} (hnt : Px (a ++ caps)) (hgo : Tj Tryd.prog g = true) (hp : ∀ x ∈ ids, ∀ T K, (∀ T', K (tb (p x)) (H ++ T ++ T')) → Aq Tryd.prog g (a ++ [idT x] ++ caps) (H ++ T) K) {K : TV → List Ob → Prop}
  (hK : ∀ T, K (tb (ids.any p)) (H ++ T)) : Aq Tryd.prog 50 [.sl 20 (ids.map idT), .fn (.func g) a caps] H K := by
 refine Es (by simp) ?_
 simp -dsimp (disch := first | assumption | omega | (simp only [Ae]; done) | (simp only [Ae]; omega)) only [↓Ag, Ad, Ai, Ah, eq_self, forall_const, Nat.reduceLT, Nat.reduceEqDiff, Nat.reduceSub, Nat.reduceMul, Nat.reduceMod, Nat.reduceDiv, Nat.reducePow, UInt8.reduceToNat, Int.reduceEq, Int.reduceLT, Int.reduceLE, ↓reduceIte, Nat.reduceAdd, Int.reduceToNat, reduceCtorEq, Nat.reduceLeDiff, ↓Bj]
 refine Ea (AeO hlen hgo hp fun T => ?_)
 by_cases h : ids.any p = true
 ·rw [if_pos h]
  rw [h] at hK
  simp -dsimp (disch := first | assumption | omega | (simp only [Ae]; done) | (simp only [Ae]; omega)) only [↓Ag, Ad, Ai, Ah, eq_self, forall_const, Nat.reduceLT, Nat.reduceEqDiff, Nat.reduceSub, Nat.reduceMul, Nat.reduceMod, Nat.reduceDiv, Nat.reducePow, UInt8.reduceToNat, Int.reduceEq, Int.reduceLT, Int.reduceLE, ↓reduceIte, Nat.reduceAdd, Int.reduceToNat, reduceCtorEq, Nat.reduceLeDiff, ↓Bj]
  exact hK _
 ·rw [if_neg h]
  have h' : ids.any p = false := by simpa using h
  rw [h'] at hK
  simp -dsimp (disch := first | assumption | omega | (simp only [Ae]; done) | (simp only [Ae]; omega)) only [↓Ag, Ad, Ai, Ah, eq_self, forall_const, Nat.reduceLT, Nat.reduceEqDiff, Nat.reduceSub, Nat.reduceMul, Nat.reduceMod, Nat.reduceDiv, Nat.reducePow, UInt8.reduceToNat, Int.reduceEq, Int.reduceLT, Int.reduceLE, ↓reduceIte, Nat.reduceAdd, Int.reduceToNat, reduceCtorEq, Nat.reduceLeDiff, ↓Bj]
  exact hK _
theorem Ape {l : List Nd} (hn : (AA l).Nodup) {ids : List (List UInt8)} (hlen : ids.length ≤ 100000) {H : List Ob} {gi mi : Nat} (hg : H[gi]? = some (.obj 0 (.agg [.mp mi 0, .val (.map none)]))) (hm : H[mi]? = some (.mpo (.arr 20) (AY l))) {K : TV → List Ob → Prop}
  (hK : ∀ T, K (tb (ids.all (Aab l))) (H ++ T)) : Aq Tryd.prog 36 [.op gi 0 [], .sl 20 (ids.map idT)] H K := by
 have h2 := Au hg
 have h3 := Au hm
 refine RZ (by simp) ?_
 simp -dsimp (disch := first | assumption | omega | (simp only [Ae]; done) | (simp only [Ae]; omega)) only [↓Ag, Ad, Ai, Ah, eq_self, forall_const, Nat.reduceLT, Nat.reduceEqDiff, Nat.reduceSub, Nat.reduceMul, Nat.reduceMod, Nat.reduceDiv, Nat.reducePow, UInt8.reduceToNat, Int.reduceEq, Int.reduceLT, Int.reduceLE, ↓reduceIte, Nat.reduceAdd, Int.reduceToNat, reduceCtorEq, Nat.reduceLeDiff, ↓IR]
 refine Ea (AbK (p := fun x => !Aab l x) hlen (by simp [Px, BU]) (by kernel_rfl) (fun x hx T K hK => ?_) fun T => ?_)
 ·refine Amz (l := l) (gi := gi) (mi := mi) hn ?_ ?_ ?_ x fun T' => hK T'
  ·rw [Bf (by simp)]; exact Acu rfl
  ·rw [List.append_assoc, Bf h2]; exact hg
  ·rw [List.append_assoc, Bf h3]; exact hm
 ·simp -dsimp (disch := first | assumption | omega | (simp only [Ae]; done) | (simp only [Ae]; omega)) only [↓Ag, Ad, Ai, Ah, eq_self, forall_const, Nat.reduceLT, Nat.reduceEqDiff, Nat.reduceSub, Nat.reduceMul, Nat.reduceMod, Nat.reduceDiv, Nat.reducePow, UInt8.reduceToNat, Int.reduceEq, Int.reduceLT, Int.reduceLE, ↓reduceIte, Nat.reduceAdd, Int.reduceToNat, reduceCtorEq, Nat.reduceLeDiff, ↓IR]
  have e : (!ids.any fun x => !Aab l x) = ids.all (Aab l) := by rw [List.not_any_eq_all_not]; simp
  rw [e]
  simp only [List.append_assoc]
  exact hK _
/-- A graph in which ids are known. -/
def AcD (l : List Nd) (ids : List (List UInt8)) : Prop := GOk l ∧ ids.all (Aab l) = true
theorem ofV (l : List Nd) (hl : l.length ≤ 1000) (hp : ∀ n ∈ l, n.ps.length ≤ 1000) (ids : List (List UInt8)) (hlen : ids.length ≤ 100000) : Aq Tryd.prog 19 [.sl 22 (l.map ndT), .sl 20 (ids.map idT)] [] (fun x H' =>
  (AcD l ids → x = .tup [.op 1 0 [], .val .nilIface] ∧ ∃ T, H' = [.mpo (.arr 20) (AY l), U3] ++ T) ∧ (¬ AcD l ids → ∃ g, x = .tup [g, .ifc 36 (i64 ((80 : Nat) : Int))])) := by
 refine Ad9 (by simp) ?_
 simp -dsimp (disch := first | assumption | omega | (simp only [Ae]; done) | (simp only [Ae]; omega)) only [↓Ag, Ad, Ai, Ah, eq_self, forall_const, Nat.reduceLT, Nat.reduceEqDiff, Nat.reduceSub, Nat.reduceMul, Nat.reduceMod, Nat.reduceDiv, Nat.reducePow, UInt8.reduceToNat, Int.reduceEq, Int.reduceLT, Int.reduceLE, ↓reduceIte, Nat.reduceAdd, Int.reduceToNat, reduceCtorEq, Nat.reduceLeDiff, ↓Lc]
 refine Ea ((AsF l hl hp).mono ?_)
 rintro x H' ⟨h1, h2⟩
 by_cases hok : GOk l
 ·obtain ⟨rfl, es, o, rfl⟩ := h1 hok
  simp -dsimp (disch := first | assumption | omega | (simp only [Ae]; done) | (simp only [Ae]; omega)) only [↓Ag, Ad, Ai, Ah, eq_self, forall_const, Nat.reduceLT, Nat.reduceEqDiff, Nat.reduceSub, Nat.reduceMul, Nat.reduceMod, Nat.reduceDiv, Nat.reducePow, UInt8.reduceToNat, Int.reduceEq, Int.reduceLT, Int.reduceLE, ↓reduceIte, Nat.reduceAdd, Int.reduceToNat, reduceCtorEq, Nat.reduceLeDiff, ↓Lc]
  refine Ea (Ape hok.1.nodup hlen (H := [.mpo (.arr 20) (AY l), U3, .mpo (.arr 20) es, o]) (mi := 0) rfl rfl fun T => ?_)
  by_cases hk : ids.all (Aab l) = true
  ·rw [hk]
   simp -dsimp (disch := first | assumption | omega | (simp only [Ae]; done) | (simp only [Ae]; omega)) only [↓Ag, Ad, Ai, Ah, eq_self, forall_const, Nat.reduceLT, Nat.reduceEqDiff, Nat.reduceSub, Nat.reduceMul, Nat.reduceMod, Nat.reduceDiv, Nat.reducePow, UInt8.reduceToNat, Int.reduceEq, Int.reduceLT, Int.reduceLE, ↓reduceIte, Nat.reduceAdd, Int.reduceToNat, reduceCtorEq, Nat.reduceLeDiff, ↓Lc]
   exact ⟨fun _ => ⟨_, rfl⟩, fun h => absurd ⟨hok, hk⟩ h⟩
  ·have hk' : ids.all (Aab l) = false := by simpa using hk
   rw [hk']
   simp -dsimp (disch := first | assumption | omega | (simp only [Ae]; done) | (simp only [Ae]; omega)) only [↓Ag, Ad, Ai, Ah, eq_self, forall_const, Nat.reduceLT, Nat.reduceEqDiff, Nat.reduceSub, Nat.reduceMul, Nat.reduceMod, Nat.reduceDiv, Nat.reducePow, UInt8.reduceToNat, Int.reduceEq, Int.reduceLT, Int.reduceLE, ↓reduceIte, Nat.reduceAdd, Int.reduceToNat, reduceCtorEq, Nat.reduceLeDiff, ↓Lc]
   exact ⟨fun h => absurd h.2 hk, fun _ => ⟨_, rfl⟩⟩
 ·obtain rfl := h2 hok
  simp -dsimp (disch := first | assumption | omega | (simp only [Ae]; done) | (simp only [Ae]; omega)) only [↓Ag, Ad, Ai, Ah, eq_self, forall_const, Nat.reduceLT, Nat.reduceEqDiff, Nat.reduceSub, Nat.reduceMul, Nat.reduceMod, Nat.reduceDiv, Nat.reducePow, UInt8.reduceToNat, Int.reduceEq, Int.reduceLT, Int.reduceLE, ↓reduceIte, Nat.reduceAdd, Int.reduceToNat, reduceCtorEq, Nat.reduceLeDiff, ↓Lc]
  exact ⟨fun h => absurd h.1 hok, fun _ => ⟨_, rfl⟩⟩
end Go.Proofs.YtingoaihnlhiaaaDoor


namespace Go.Proofs
open Go.Shelf
end Go.Proofs


namespace Go.Proofs.YtingoaihnlhiaaaDoor
open Go.RowKit
variable [A7]
set_option linter.unusedSectionVars false
set_option linter.unusedVariables false

theorem Aau {P : Program} {c : Ctx} {w : World} {l : List UInt8} {v : Value} (h : Rep c w (slB l) v) : (Extern.Bytes.bytesOf v).run P w = .ok ⟨l.toArray⟩ w := by
 obtain ⟨hw, hr⟩ := h.sl
 rcases hr with ⟨he, ad, cap, rfl, _⟩ | ⟨b, off, cap, us, rfl, h3, h4, h5, h6, h7⟩
 ·have hl : l = [] := by simpa using he
  subst hl
  cases ad with
  | none => rfl
  | some a => rfl
 ·have hb := JB (fun y hy => by obtain ⟨b, _, rfl⟩ := List.mem_map.1 hy; exact Aeh b) h6
  rw [U5] at hb
  have hl := Lib.run_loadBytesX (P := P) w (l.map fun b : UInt8 => (b.toNat : Int)) ⟨b, off, none⟩ .empty (fun j x hj => by
   rw [CV]
   refine h7 j _ ?_
   rw [hb, List.getElem?_map]
   rw [List.getElem?_map] at hj
   cases hg : l[j]? with
   | none => rw [hg] at hj; cases hj
   | some y => rw [hg] at hj; cases hj; rfl)
  have e2 : Lib.bytesOf (l.map fun b : UInt8 => (b.toNat : Int)) = l := by simp [Lib.bytesOf, List.map_map, Function.comp_def]
  rw [e2] at hl
  simp only [List.length_map] at hl ⊢
  simp only [Extern.Bytes.bytesOf]
  rw [hl]
  congr 1
  apply ByteArray.ext
  show (#[] : Array UInt8) ++ l.toArray = l.toArray
  simp
theorem Ab4 {P : Program} {w : World} {u v : Value} {a b : List UInt8} (h1 : (Extern.Bytes.bytesOf u).run P w = .ok ⟨a.toArray⟩ w) (h2 : (Extern.Bytes.bytesOf v).run P w = .ok ⟨b.toArray⟩ w) : (Extern.BytealgCompare.compare #[u, v]).run P w = .ok (.int .i64 (Lib.compareBytes a b)) w := by
 change Sem.run P (do pure (goInt (Extern.BytealgCompare.cmp (← Extern.Bytes.bytesOf u) (← Extern.Bytes.bytesOf v)))) w = _
 simp only [Sem.run_bind, Sem.run_pure, h1, h2, Result.andThen]
 rw [Lib.cmp_eq]
 rfl
set_option maxHeartbeats 2000000 in
set_option maxRecDepth 100000 in
theorem AfG (u v : Value) (z : Int) (w : World) (h : (Extern.BytealgCompare.compare #[u, v]).run Tryd.prog w = .ok (.int .i64 z) w) :
  Calls Tryd.prog 47 #[u, v] w fun e w' => e = .returned (.int .i64 z) ∧ w' = w := by
 go_enter Tryd.func47, Tryd.ntmps47
 go_wp2
 rw [run_callFunc_extern Tryd.func57 (by kernel_rfl) (by kernel_rfl) (by kernel_rfl) (e := Extern.BytealgCompare.compare) (by kernel_rfl), h]
 simp only [Result.andThen]
 rw [Oper.upon_value]
 go_wp2
 go_ret
 exact ⟨rfl, rfl⟩
theorem Ake (a b : List UInt8) : Et Tryd.prog 47 [slB a, slB b] (fun x => x = .val (.int .i64 (Lib.compareBytes a b))) := by
 intro β F w vs hF hv
 obtain ⟨v, us, rfl, h1, hv⟩ := Ba.cons.1 hv
 obtain ⟨v2, us, rfl, h2, hv⟩ := Ba.cons.1 hv
 rw [Ba.nil] at hv; subst hv
 refine (AfG v v2 _ w (Ab4 (Aau (Or.inl h1)) (Aau (Or.inl h2)))).mono ?_
 rintro e w' ⟨rfl, rfl⟩
 exact ⟨_, _, F, rfl, rfl, Rep.of_val, ⟨rfl, rfl, rfl, Nat.le_refl _, fun _ _ => rfl, fun _ h => h, fun _ _ h => h, hF.1⟩⟩
end Go.Proofs.YtingoaihnlhiaaaDoor


namespace Go.Proofs.YtingoaihnlhiaaaDoor
variable [A7]
set_option linter.unusedSectionVars false
set_option linter.unusedVariables false
set_option linter.defProp false
set_option maxRecDepth 100000

def E5 : Af := .seq (.seq (.ops [mv_ 9 3,
  po_ 10 (.bin 3 .geq (.t 9) (ci_ 0))] [0, 2, 3, 10])
 (.cond (.t 10)
 (.skip)
 (.exit 0)))
 (.seq (.block 1 (.ops [mv_ 13 0,
  mv_ 14 3,
  mv_ 15 2,
  so_ 16 (.call 39 [.t 13, .t 14, .t 15])] [0, 2, 3]))
 (.ops [mv_ 11 3,
  po_ 12 (.bin 3 .sub (.t 11) (ci_ 1)),
  mv_ 3 12] [0, 2, 3]))
def ES : Af := .seq (.ops [mv_ 6 2,
  po_ 7 (.bin 3 .quo (.t 6) (ci_ 2)),
  po_ 8 (.bin 3 .sub (.t 7) (ci_ 1)),
  mv_ 3 8] [0, 2, 3])
 (.block 0 (.loop [0, 2, 3] E5))
def GZ : Af := .seq (.ops [mv_ 4 0,
  so_ 5 (.inv (.t 4) "Len" []),
  mv_ 2 5] [0, 2])
 ES
def Hr : List VR := []
theorem Qy : Tryd.f22.body.bind (trC Tryd.prog Tryd.f22.ntmps) = some (er GZ) := by kernel_rfl
theorem PX : trR Tryd.prog Tryd.f22.results.toList = some Hr := by kernel_rfl
def Jj := Ac E5.eq_1
def Jf := Ac ES.eq_1
def Nj := Ac GZ.eq_1
theorem Nw {K : TV → Prop} {e : Env} {H : List Ob} : res Hr e H K = res [] e H K := Aa rfl
def BP := (And.intro (And.intro @Jj @Jf) (And.intro @Nj @Nw))
def Pv := DN 17 Tryd.func22 Qy PX rfl

def ER : Af := .seq (.seq (.ops [mv_ 23 8,
  po_ 24 (.bin 3 .add (.t 23) (ci_ 1)),
  mv_ 10 24] [0, 1, 2, 7, 8, 9, 10])
 (.seq (.ops [mv_ 25 10,
  mv_ 26 2,
  po_ 27 (.bin 3 .lss (.t 25) (.t 26)),
  mv_ 28 27,
  ⟨some 29, .p (.mov (.t 0)), some ⟨28, true⟩⟩,
  ⟨some 30, .p (.mov (.t 10)), some ⟨28, true⟩⟩,
  ⟨some 31, .p (.mov (.t 8)), some ⟨28, true⟩⟩,
  ⟨some 32, .s (.inv (.t 29) "Less" [.t 30, .t 31]), some ⟨28, true⟩⟩,
  po_ 33 (.pick (.t 28) (.t 32) (.c (.bool false)))] [0, 1, 2, 7, 9, 10, 33])
 (.cond (.t 33)
 (.ops [mv_ 34 10,
   mv_ 9 34] [0, 1, 2, 7, 9])
 (.skip))))
 (.seq (.seq (.ops [mv_ 35 0,
  mv_ 36 9,
  mv_ 37 7,
  so_ 38 (.inv (.t 35) "Less" [.t 36, .t 37]),
  po_ 39 (.un .not (.t 38))] [0, 1, 2, 7, 9, 39])
 (.cond (.t 39)
 (.exit 0)
 (.skip)))
 (.seq (.ops [mv_ 40 0,
  mv_ 41 7,
  mv_ 42 9,
  so_ 43 (.inv (.t 40) "Swap" [.t 41, .t 42])] [0, 1, 2, 9])
 (.ops [mv_ 44 9,
  mv_ 7 44] [0, 1, 2, 7])))
def EL : Af := .seq (.ops [mv_ 22 8,
  mv_ 9 22] [0, 1, 2, 7, 8, 9])
 ER
def E8 : Af := .seq (.seq (.ops [mv_ 15 8,
  mv_ 16 2,
  po_ 17 (.bin 3 .geq (.t 15) (.t 16)),
  mv_ 18 17,
  ⟨some 19, .p (.mov (.t 8)), some ⟨18, false⟩⟩,
  ⟨some 20, .p (.bin 3 .lss (.t 19) (ci_ 0)), some ⟨18, false⟩⟩,
  po_ 21 (.pick (.t 18) (.c (.bool true)) (.t 20))] [0, 1, 2, 7, 8, 21])
 (.cond (.t 21)
 (.exit 0)
 (.skip)))
 EL
def EN : Af := .block 1 (.seq (.ops [mv_ 12 7,
  po_ 13 (.bin 3 .mul (ci_ 2) (.t 12)),
  po_ 14 (.bin 3 .add (.t 13) (ci_ 1)),
  mv_ 8 14] [0, 1, 2, 7, 8])
 E8)
def EM : Af := .seq (.ops [mv_ 45 7,
  mv_ 46 1,
  po_ 47 (.bin 3 .gtr (.t 45) (.t 46)),
  mv_ 6 47] [6])
 (.ret)
def EY : Af := .seq (.block 0 (.loop [0, 1, 2, 7] EN))
 EM
def EX : Af := .seq (.ops [mv_ 11 1,
  mv_ 7 11] [0, 1, 2, 7])
 EY
def Hz : Af := .seq (.ops [po_ 6 (.mov (.c (.bool false)))] [0, 1, 2])
 EX
def Hq : List VR := [.tmp 6]
theorem PN : Tryd.f39.body.bind (trC Tryd.prog Tryd.f39.ntmps) = some (er Hz) := by kernel_rfl
theorem Qv : trR Tryd.prog Tryd.f39.results.toList = some Hq := by kernel_rfl
def Jm := Ac ER.eq_1
def Jk := Ac EL.eq_1
def Jh := Ac E8.eq_1
def Jp := Ac EN.eq_1
def Ji := Ac EM.eq_1
def Jn := Ac EY.eq_1
def Jl := Ac EX.eq_1
def MX := Ac Hz.eq_1
theorem Np {K : TV → Prop} {e : Env} {H : List Ob} : res Hq e H K = res [.tmp 6] e H K := Aa rfl
def Am := (And.intro (And.intro (And.intro (And.intro @Jm @Jk) (And.intro @Jh @Jp)) (And.intro (And.intro @Ji @Jn) (And.intro @Jl @MX))) @Np)
def Pq := DN 48 Tryd.func39 PN Qv rfl

def Gg : Af := .seq (.seq (.ops [mv_ 8 4,
  mv_ 9 1,
  po_ 10 (.bin 3 .eql (.t 8) (.t 9)),
  mv_ 11 10,
  ⟨some 12, .p (.mov (.t 0)), some ⟨11, false⟩⟩,
  ⟨some 13, .p (.mov (.t 1)), some ⟨11, false⟩⟩,
  ⟨some 14, .p (.mov (.t 4)), some ⟨11, false⟩⟩,
  ⟨some 15, .s (.inv (.t 12) "Less" [.t 13, .t 14]), some ⟨11, false⟩⟩,
  ⟨some 16, .p (.un .not (.t 15)), some ⟨11, false⟩⟩,
  po_ 17 (.pick (.t 11) (.c (.bool true)) (.t 16))] [0, 1, 4, 17])
 (.cond (.t 17)
 (.exit 0)
 (.skip)))
 (.seq (.ops [mv_ 18 0,
  mv_ 19 4,
  mv_ 20 1,
  so_ 21 (.inv (.t 18) "Swap" [.t 19, .t 20])] [0, 4])
 (.ops [mv_ 22 4,
  mv_ 1 22] [0, 1]))
def F6 : Af := .block 1 (.seq (.ops [mv_ 5 1,
  po_ 6 (.bin 3 .sub (.t 5) (ci_ 1)),
  po_ 7 (.bin 3 .quo (.t 6) (ci_ 2)),
  mv_ 4 7] [0, 1, 4])
 Gg)
def Jb : Af := .block 0 (.loop [0, 1] F6)
def IG : List VR := []
theorem UM : Tryd.f40.body.bind (trC Tryd.prog Tryd.f40.ntmps) = some (er Jb) := by kernel_rfl
theorem Uy : trR Tryd.prog Tryd.f40.results.toList = some IG := by kernel_rfl
def Lr := Ac Gg.eq_1
def Kw := Ac F6.eq_1
def Q7 := Ac Jb.eq_1
theorem Rx {K : TV → Prop} {e : Env} {H : List Ob} : res IG e H K = res [] e H K := Aa rfl
def BM := (And.intro (And.intro @Lr @Kw) (And.intro @Q7 @Rx))
def Sl := DN 23 Tryd.func40 UM Uy rfl

def FC : Af := .seq (.ops [mv_ 4 0,
  so_ 5 (.inv (.t 4) "Len" []),
  po_ 6 (.bin 3 .sub (.t 5) (ci_ 1)),
  mv_ 3 6] [0, 3])
 (.seq (.ops [mv_ 7 0,
  mv_ 8 3,
  so_ 9 (.inv (.t 7) "Swap" [.c (.int .i64 ((0 : Nat) : Int)), .t 8])] [0, 3])
 (.seq (.ops [mv_ 10 0,
  mv_ 11 3,
  so_ 12 (.call 39 [.t 10, .c (.int .i64 ((0 : Nat) : Int)), .t 11])] [0])
 (.seq (.ops [mv_ 13 0,
  so_ 14 (.inv (.t 13) "Pop" []),
  mv_ 2 14] [2])
 (.ret))))
def Ih : Af := .seq (.ops [po_ 2 (.mov (.c .nilIface))] [0])
 FC
def Ie : List VR := [.tmp 2]
theorem SG : Tryd.f24.body.bind (trC Tryd.prog Tryd.f24.ntmps) = some (er Ih) := by kernel_rfl
theorem SE : trR Tryd.prog Tryd.f24.results.toList = some Ie := by kernel_rfl
def JW := Ac FC.eq_1
def Py := Ac Ih.eq_1
theorem PI {K : TV → Prop} {e : Env} {H : List Ob} : res Ie e H K = res [.tmp 2] e H K := Aa rfl
def BV := (And.intro (And.intro @JW @Py) @PI)
def Qr := DN 15 Tryd.func24 SG SE rfl

def Hu : Af := .seq (.ops [mv_ 4 0,
  mv_ 5 1,
  so_ 6 (.inv (.t 4) "Push" [.t 5])] [0])
 (.ops [mv_ 7 0,
  mv_ 8 0,
  so_ 9 (.inv (.t 8) "Len" []),
  po_ 10 (.bin 3 .sub (.t 9) (ci_ 1)),
  so_ 11 (.call 40 [.t 7, .t 10])] [])
def GY : List VR := []
theorem Qh : Tryd.f26.body.bind (trC Tryd.prog Tryd.f26.ntmps) = some (er Hu) := by kernel_rfl
theorem Qj : trR Tryd.prog Tryd.f26.results.toList = some GY := by kernel_rfl
def ML := Ac Hu.eq_1
theorem Nh {K : TV → Prop} {e : Env} {H : List Ob} : res GY e H K = res [] e H K := Aa rfl
def CY := (And.intro @ML @Nh)
def PE := DN 12 Tryd.func26 Qh Qj rfl

def LM : Af := .seq (.ops [po_ 2 (.mov (ci_ 0))] [0])
 (.seq (.ops [mv_ 3 0,
  po_ 4 (.lenV (.t 3)),
  mv_ 2 4] [2])
 (.ret))
def Ld : List VR := [.tmp 2]
theorem Xw : Tryd.f23.body.bind (trC Tryd.prog Tryd.f23.ntmps) = some (er LM) := by kernel_rfl
theorem XJ : trR Tryd.prog Tryd.f23.results.toList = some Ld := by kernel_rfl
def UH := Ac LM.eq_1
theorem TM {K : TV → Prop} {e : Env} {H : List Ob} : res Ld e H K = res [.tmp 2] e H K := Aa rfl
def Xc := (And.intro @UH @TM)
def U9 := DN 5 Tryd.func23 Xw XJ rfl

def G8 : Af := .seq (.draw 21 [mv_ 7 0,
  mv_ 8 2,
  po_ 9 (.idxA 22 (.t 7) (.t 8)),
  po_ 10 (.fieldA 2 21 (.t 9)),
  po_ 11 (.load false 1 (.t 10)),
  mv_ 12 0,
  mv_ 13 1,
  po_ 14 (.idxA 22 (.t 12) (.t 13)),
  po_ 15 (.fieldA 2 21 (.t 14)),
  po_ 16 (.load false 1 (.t 15)),
  so_ 17 (.call 99 [.t 11, .t 16]),
  mv_ 18 0,
  mv_ 19 2,
  po_ 20 (.idxA 22 (.t 18) (.t 19)),
  po_ 21 (.fieldA 0 0 (.t 20)),
  po_ 22 (.slA 20 1 (.t 21) none none),
  mv_ 23 0,
  mv_ 24 1,
  po_ 25 (.idxA 22 (.t 23) (.t 24)),
  po_ 26 (.fieldA 0 0 (.t 25)),
  po_ 27 (.slA 20 1 (.t 26) none none),
  so_ 28 (.call 47 [.t 22, .t 27]),
  ⟨some 29, .s (.bslice 1 2 (.val (.int .i64 ((0 : Nat) : Int))) [⟨0, .t 17⟩, ⟨1, .t 28⟩]), none⟩,
  so_ 30 (.call 98 [.t 29]),
  po_ 31 (.bin 3 .lss (.t 30) (ci_ 0)),
  mv_ 6 31] [6])
 (.ret)
def Js : Af := .seq (.ops [po_ 6 (.mov (.c (.bool false)))] [0, 1, 2])
 G8
def JG : List VR := [.tmp 6]
theorem V8 : Tryd.f94.body.bind (trC Tryd.prog Tryd.f94.ntmps) = some (er Js) := by kernel_rfl
theorem Vx : trR Tryd.prog Tryd.f94.results.toList = some JG := by kernel_rfl
def MN := Ac G8.eq_1
def SK := Ac Js.eq_1
theorem Sv {K : TV → Prop} {e : Env} {H : List Ob} : res JG e H K = res [.tmp 6] e H K := Aa rfl
def DY := (And.intro (And.intro @MN @SK) @Sv)
def TQ := DN 32 Tryd.func94 V8 Vx rfl

def Ju : Af := .draw 8 [mv_ 6 0,
  mv_ 7 1,
  mv_ 8 0,
  mv_ 9 2,
  mv_ 10 0,
  mv_ 11 2,
  po_ 12 (.idxA 22 (.t 10) (.t 11)),
  po_ 13 (.load true 22 (.t 12)),
  mv_ 14 0,
  mv_ 15 1,
  po_ 16 (.idxA 22 (.t 14) (.t 15)),
  po_ 17 (.load true 22 (.t 16)),
  po_ 18 (.idxA 22 (.t 6) (.t 7)),
  ⟨none, .s (.store 22 (.t 18) (.t 13)), none⟩,
  po_ 19 (.idxA 22 (.t 8) (.t 9)),
  ⟨none, .s (.store 22 (.t 19) (.t 17)), none⟩] []
def JD : List VR := []
theorem Vp : Tryd.f97.body.bind (trC Tryd.prog Tryd.f97.ntmps) = some (er Ju) := by kernel_rfl
theorem WG : trR Tryd.prog Tryd.f97.results.toList = some JD := by kernel_rfl
def Sz := Ac Ju.eq_1
theorem Si {K : TV → Prop} {e : Env} {H : List Ob} : res JD e H K = res [] e H K := Aa rfl
def Ve := (And.intro @Sz @Si)
def Ur := DN 20 Tryd.func97 Vp WG rfl

def JI : Af := .draw 4 [mv_ 4 0,
  mv_ 5 0,
  po_ 6 (.nilc (.t 5)),
  po_ 7 (.load false 1 (.t 6)),
  mv_ 8 1,
  po_ 9 (.gen (.tas 51) [.t 8]),
  ⟨some 10, .s (.bslice 22 1 (.agg [.arr 20 1 [.val (.int .u8 ((0 : Nat) : Int)), .val (.int .u8 ((0 : Nat) : Int)), .val (.int .u8 ((0 : Nat) : Int)), .val (.int .u8 ((0 : Nat) : Int)), .val (.int .u8 ((0 : Nat) : Int)), .val (.int .u8 ((0 : Nat) : Int)), .val (.int .u8 ((0 : Nat) : Int)), .val (.int .u8 ((0 : Nat) : Int)), .val (.int .u8 ((0 : Nat) : Int)), .val (.int .u8 ((0 : Nat) : Int)), .val (.int .u8 ((0 : Nat) : Int)), .val (.int .u8 ((0 : Nat) : Int)), .val (.int .u8 ((0 : Nat) : Int)), .val (.int .u8 ((0 : Nat) : Int)), .val (.int .u8 ((0 : Nat) : Int)), .val (.int .u8 ((0 : Nat) : Int)), .val (.int .u8 ((0 : Nat) : Int)), .val (.int .u8 ((0 : Nat) : Int)), .val (.int .u8 ((0 : Nat) : Int)), .val (.int .u8 ((0 : Nat) : Int))], .val (.slice none 0 0), .val (.int .i64 ((0 : Nat) : Int))]) [⟨0, .t 9⟩]), none⟩,
  so_ 11 (.app 22 56 51 (.t 7) (.t 10)),
  po_ 12 (.nilc (.t 4)),
  ⟨none, .s (.store 1 (.t 12) (.t 11)), none⟩] []
def JA : List VR := []
theorem Vf : Tryd.f96.body.bind (trC Tryd.prog Tryd.f96.ntmps) = some (er JI) := by kernel_rfl
theorem Wi : trR Tryd.prog Tryd.f96.results.toList = some JA := by kernel_rfl
def SL := Ac JI.eq_1
theorem SI {K : TV → Prop} {e : Env} {H : List Ob} : res JA e H K = res [] e H K := Aa rfl
def UT := (And.intro @SL @SI)
def Ul := DN 13 Tryd.func96 Vf Wi rfl

def Ig : Af := .seq (.ops [mv_ 8 3,
  mv_ 9 3,
  po_ 10 (.lenV (.t 9)),
  po_ 11 (.bin 3 .sub (.t 10) (ci_ 1)),
  po_ 12 (.idxA 22 (.t 8) (.t 11)),
  po_ 13 (.load true 22 (.t 12)),
  so_ 4 (.alloc (.agg [.arr 20 1 [.val (.int .u8 ((0 : Nat) : Int)), .val (.int .u8 ((0 : Nat) : Int)), .val (.int .u8 ((0 : Nat) : Int)), .val (.int .u8 ((0 : Nat) : Int)), .val (.int .u8 ((0 : Nat) : Int)), .val (.int .u8 ((0 : Nat) : Int)), .val (.int .u8 ((0 : Nat) : Int)), .val (.int .u8 ((0 : Nat) : Int)), .val (.int .u8 ((0 : Nat) : Int)), .val (.int .u8 ((0 : Nat) : Int)), .val (.int .u8 ((0 : Nat) : Int)), .val (.int .u8 ((0 : Nat) : Int)), .val (.int .u8 ((0 : Nat) : Int)), .val (.int .u8 ((0 : Nat) : Int)), .val (.int .u8 ((0 : Nat) : Int)), .val (.int .u8 ((0 : Nat) : Int)), .val (.int .u8 ((0 : Nat) : Int)), .val (.int .u8 ((0 : Nat) : Int)), .val (.int .u8 ((0 : Nat) : Int)), .val (.int .u8 ((0 : Nat) : Int))], .val (.slice none 0 0), .val (.int .i64 ((0 : Nat) : Int))])),
  ⟨none, .s (.store 22 (.t 4) (.t 13)), none⟩] [0, 3, 4])
 (.seq (.ops [mv_ 14 0,
  mv_ 15 3,
  mv_ 16 3,
  po_ 17 (.lenV (.t 16)),
  po_ 18 (.bin 3 .sub (.t 17) (ci_ 1)),
  po_ 19 (.slV 22 (.t 15) none (some (.t 18))),
  po_ 20 (.nilc (.t 14)),
  ⟨none, .s (.store 1 (.t 20) (.t 19)), none⟩] [4])
 (.seq (.ops [po_ 21 (.load true 22 (.t 4)),
  po_ 22 (.iface 51 (.t 21)),
  mv_ 2 22] [2])
 (.ret)))
def Ii : Af := .seq (.ops [mv_ 5 0,
  po_ 6 (.nilc (.t 5)),
  po_ 7 (.load false 1 (.t 6)),
  mv_ 3 7] [0, 3])
 Ig
def LZ : Af := .seq (.ops [po_ 2 (.mov (.c .nilIface))] [0])
 Ii
def Lp : List VR := [.tmp 2]
theorem XN : Tryd.f95.body.bind (trC Tryd.prog Tryd.f95.ntmps) = some (er LZ) := by kernel_rfl
theorem Xy : trR Tryd.prog Tryd.f95.results.toList = some Lp := by kernel_rfl
def PG := Ac Ig.eq_1
def Po := Ac Ii.eq_1
def UC := Ac LZ.eq_1
theorem Uh {K : TV → Prop} {e : Env} {H : List Ob} : res Lp e H K = res [.tmp 2] e H K := Aa rfl
def Xm := (And.intro (And.intro @PG @Po) (And.intro @UC @Uh))
def VH := DN 23 Tryd.func95 XN Xy rfl

def PV : Af := .seq (.ops [po_ 9 (.bin 3 .lss (.t 8) (.t 7))] [3, 6, 7, 8, 9])
 (.seq (.cond (.t 9)
 (.skip)
 (.exit 0))
 (.seq (.block 1 (.seq (.ops [po_ 10 (.idxA 1 (.t 6) (.t 8)),
  po_ 11 (.load false 1 (.t 10)),
  mv_ 5 11] [3, 5, 6, 7, 8])
 (.seq (.ops [mv_ 12 5,
  mv_ 13 3,
  po_ 14 (.bin 3 .neq (.t 12) (.t 13))] [3, 5, 6, 7, 8, 14])
 (.cond (.t 14)
 (.seq (.ops [mv_ 15 5,
   mv_ 2 15] [2])
  (.ret))
 (.skip)))))
 (.ops [po_ 16 (.bin 3 .add (.t 8) (ci_ 1)),
  mv_ 8 16] [3, 6, 7, 8])))
def QR : Af := .seq (.ops [mv_ 17 3,
  mv_ 2 17] [2])
 (.ret)
def QH : Af := .seq (.seq (.ops [mv_ 6 0,
  po_ 7 (.lenV (.t 6)),
  po_ 8 (.mov (ci_ 0))] [3, 6, 7, 8])
 (.block 0 (.loop [3, 6, 7, 8] PV)))
 QR
def QP : Af := .seq (.ops [po_ 3 (.mov (ci_ 0))] [0, 3])
 QH
def Yv : Af := .seq (.ops [po_ 2 (.mov (ci_ 0))] [0])
 QP
def Yj : List VR := [.tmp 2]
theorem AbY : Tryd.f98.body.bind (trC Tryd.prog Tryd.f98.ntmps) = some (er Yv) := by kernel_rfl
theorem Acx : trR Tryd.prog Tryd.f98.results.toList = some Yj := by kernel_rfl
def WW := Ac PV.eq_1
def X0 := Ac QR.eq_1
def XX := Ac QH.eq_1
def Xg := Ac QP.eq_1
def ZW := Ac Yv.eq_1
theorem Aai {K : TV → Prop} {e : Env} {H : List Ob} : res Yj e H K = res [.tmp 2] e H K := Aa rfl
def EU := (And.intro (And.intro (And.intro @WW @X0) (And.intro @XX @Xg)) (And.intro @ZW @Aai))
def AaZ := DN 18 Tryd.func98 AbY Acx rfl

def Gi : Af := .seq (.seq (.ops [mv_ 11 5] [0, 1, 6, 11])
 (.cond (.t 11)
 (.seq (.seq (.ops [mv_ 12 6] [12])
  (.cond (.t 12)
  (.seq (.ops [po_ 4 (.mov (ci_ 0))] [4])
   (.ret))
  (.skip)))
  (.seq (.ops [po_ 4 (.mov (.c (.int .i64 (-1))))] [4])
  (.ret)))
 (.skip)))
 (.seq (.seq (.ops [mv_ 13 6] [0, 1, 13])
 (.cond (.t 13)
 (.seq (.ops [po_ 4 (.mov (ci_ 1))] [4])
  (.ret))
 (.skip)))
 (.seq (.seq (.ops [mv_ 14 0,
  mv_ 15 1,
  po_ 16 (.bin 2 .lss (.t 14) (.t 15))] [0, 1, 16])
 (.cond (.t 16)
 (.seq (.ops [po_ 4 (.mov (.c (.int .i64 (-1))))] [4])
  (.ret))
 (.skip)))
 (.seq (.seq (.ops [mv_ 17 0,
  mv_ 18 1,
  po_ 19 (.bin 2 .gtr (.t 17) (.t 18))] [19])
 (.cond (.t 19)
 (.seq (.ops [po_ 4 (.mov (ci_ 1))] [4])
  (.ret))
 (.skip)))
 (.seq (.ops [po_ 4 (.mov (ci_ 0))] [4])
 (.ret)))))
def Gj : Af := .seq (.ops [mv_ 9 1,
  so_ 10 (.call 100 [.t 9]),
  mv_ 6 10] [0, 1, 5, 6])
 Gi
def F7 : Af := .seq (.ops [mv_ 7 0,
  so_ 8 (.call 100 [.t 7]),
  mv_ 5 8] [0, 1, 5])
 Gj
def Iy : Af := .seq (.ops [po_ 4 (.mov (ci_ 0))] [0, 1])
 F7
def Iw : List VR := [.tmp 4]
theorem UL : Tryd.f99.body.bind (trC Tryd.prog Tryd.f99.ntmps) = some (er Iy) := by kernel_rfl
theorem UF : trR Tryd.prog Tryd.f99.results.toList = some Iw := by kernel_rfl
def KU := Ac Gi.eq_1
def KR := Ac Gj.eq_1
def Kz := Ac F7.eq_1
def Q4 := Ac Iy.eq_1
theorem PS {K : TV → Prop} {e : Env} {H : List Ob} : res Iw e H K = res [.tmp 4] e H K := Aa rfl
def BZ := (And.intro (And.intro (And.intro @KU @KR) (And.intro @Kz @Q4)) @PS)
def Sj := DN 20 Tryd.func99 UL UF rfl

def KD : Af := .seq (.ops [po_ 2 (.mov (.c (.bool false)))] [0])
 (.seq (.ops [mv_ 3 0,
  mv_ 4 0,
  po_ 5 (.bin 2 .neq (.t 3) (.t 4)),
  mv_ 2 5] [2])
 (.ret))
def KO : List VR := [.tmp 2]
theorem X7 : Tryd.f100.body.bind (trC Tryd.prog Tryd.f100.ntmps) = some (er KD) := by kernel_rfl
theorem XP : trR Tryd.prog Tryd.f100.results.toList = some KO := by kernel_rfl
def TG := Ac KD.eq_1
theorem UN {K : TV → Prop} {e : Env} {H : List Ob} : res KO e H K = res [.tmp 2] e H K := Aa rfl
def Xd := (And.intro @TG @UN)
def WS := DN 6 Tryd.func100 X7 XP rfl

def NI : Af := .seq (.ops [so_ 43 (.nxtM (.t 42)),
  po_ 44 (.ext 0 (.t 43))] [8, 11, 42, 44])
 (.seq (.cond (.t 44)
 (.skip)
 (.exit 0))
 (.block 1 (.seq (.ops [po_ 45 (.gen .entM [.t 42]),
  po_ 46 (.ext 0 (.t 45)),
  so_ 12 (.alloc (.arr 20 1 [.val (.int .u8 ((0 : Nat) : Int)), .val (.int .u8 ((0 : Nat) : Int)), .val (.int .u8 ((0 : Nat) : Int)), .val (.int .u8 ((0 : Nat) : Int)), .val (.int .u8 ((0 : Nat) : Int)), .val (.int .u8 ((0 : Nat) : Int)), .val (.int .u8 ((0 : Nat) : Int)), .val (.int .u8 ((0 : Nat) : Int)), .val (.int .u8 ((0 : Nat) : Int)), .val (.int .u8 ((0 : Nat) : Int)), .val (.int .u8 ((0 : Nat) : Int)), .val (.int .u8 ((0 : Nat) : Int)), .val (.int .u8 ((0 : Nat) : Int)), .val (.int .u8 ((0 : Nat) : Int)), .val (.int .u8 ((0 : Nat) : Int)), .val (.int .u8 ((0 : Nat) : Int)), .val (.int .u8 ((0 : Nat) : Int)), .val (.int .u8 ((0 : Nat) : Int)), .val (.int .u8 ((0 : Nat) : Int)), .val (.int .u8 ((0 : Nat) : Int))])),
  ⟨none, .s (.store 20 (.t 12) (.t 46)), none⟩] [8, 11, 12, 42])
 (.ops [mv_ 47 11,
  po_ 48 (.load true 20 (.t 12)),
  ⟨none, .s (.delM (.arr 20) (.t 47) (.t 48)), none⟩] [8, 11, 42]))))
def Pi : Af := .seq (.block 5 (.seq (.ops [po_ 66 (.idxA 20 (.t 62) (.t 64)),
  po_ 67 (.load true 20 (.t 66)),
  so_ 16 (.alloc (.arr 20 1 [.val (.int .u8 ((0 : Nat) : Int)), .val (.int .u8 ((0 : Nat) : Int)), .val (.int .u8 ((0 : Nat) : Int)), .val (.int .u8 ((0 : Nat) : Int)), .val (.int .u8 ((0 : Nat) : Int)), .val (.int .u8 ((0 : Nat) : Int)), .val (.int .u8 ((0 : Nat) : Int)), .val (.int .u8 ((0 : Nat) : Int)), .val (.int .u8 ((0 : Nat) : Int)), .val (.int .u8 ((0 : Nat) : Int)), .val (.int .u8 ((0 : Nat) : Int)), .val (.int .u8 ((0 : Nat) : Int)), .val (.int .u8 ((0 : Nat) : Int)), .val (.int .u8 ((0 : Nat) : Int)), .val (.int .u8 ((0 : Nat) : Int)), .val (.int .u8 ((0 : Nat) : Int)), .val (.int .u8 ((0 : Nat) : Int)), .val (.int .u8 ((0 : Nat) : Int)), .val (.int .u8 ((0 : Nat) : Int)), .val (.int .u8 ((0 : Nat) : Int))])),
  ⟨none, .s (.store 20 (.t 16) (.t 67)), none⟩] [8, 11, 13, 16, 51, 62, 63, 64])
 (.draw 4 [mv_ 68 13,
  po_ 69 (.load true 20 (.t 16)),
  po_ 70 (.gen (.look (.arr 20) (.val (.int .i64 ((0 : Nat) : Int))) false) [.t 68, .t 69]),
  po_ 71 (.bin 3 .add (.t 70) (ci_ 1)),
  so_ 72 (.ment (.arr 20) (.val (.int .i64 ((0 : Nat) : Int))) (.t 68) (.t 69)),
  po_ 73 (.ext 1 (.t 72)),
  ⟨none, .s (.mest (.t 68) (.t 73) (.t 71)), none⟩] [8, 11, 13, 51, 62, 63, 64])))
 (.ops [po_ 74 (.bin 3 .add (.t 64) (ci_ 1)),
  mv_ 64 74] [8, 11, 13, 51, 62, 63, 64])
def NG : Af := .seq (.cond (.t 65)
 (.skip)
 (.exit 4))
 Pi
def NZ : Af := .seq (.ops [po_ 65 (.bin 3 .lss (.t 64) (.t 63))] [8, 11, 13, 51, 62, 63, 64, 65])
 NG
def OD : Af := .block 4 (.loop [8, 11, 13, 51, 62, 63, 64] NZ)
def Og : Af := .seq (.draw 8 [mv_ 56 8,
  po_ 57 (.nilc (.t 56)),
  po_ 58 (.fieldA 0 0 (.t 57)),
  po_ 59 (.load false 1 (.t 58)),
  po_ 60 (.load true 20 (.t 14)),
  po_ 61 (.gen (.look (.arr 20) (.agg [.arr 20 1 [.val (.int .u8 ((0 : Nat) : Int)), .val (.int .u8 ((0 : Nat) : Int)), .val (.int .u8 ((0 : Nat) : Int)), .val (.int .u8 ((0 : Nat) : Int)), .val (.int .u8 ((0 : Nat) : Int)), .val (.int .u8 ((0 : Nat) : Int)), .val (.int .u8 ((0 : Nat) : Int)), .val (.int .u8 ((0 : Nat) : Int)), .val (.int .u8 ((0 : Nat) : Int)), .val (.int .u8 ((0 : Nat) : Int)), .val (.int .u8 ((0 : Nat) : Int)), .val (.int .u8 ((0 : Nat) : Int)), .val (.int .u8 ((0 : Nat) : Int)), .val (.int .u8 ((0 : Nat) : Int)), .val (.int .u8 ((0 : Nat) : Int)), .val (.int .u8 ((0 : Nat) : Int)), .val (.int .u8 ((0 : Nat) : Int)), .val (.int .u8 ((0 : Nat) : Int)), .val (.int .u8 ((0 : Nat) : Int)), .val (.int .u8 ((0 : Nat) : Int))], .val (.slice none 0 0), .val (.int .i64 ((0 : Nat) : Int))]) false) [.t 59, .t 60]),
  po_ 62 (.field false 1 1 20 (.t 61)),
  po_ 63 (.lenV (.t 62)),
  po_ 64 (.mov (ci_ 0))] [8, 11, 13, 51, 62, 63, 64])
 OD
def OI : Af := .block 3 (.seq (.ops [po_ 54 (.gen .entM [.t 51]),
  po_ 55 (.ext 0 (.t 54)),
  so_ 14 (.alloc (.arr 20 1 [.val (.int .u8 ((0 : Nat) : Int)), .val (.int .u8 ((0 : Nat) : Int)), .val (.int .u8 ((0 : Nat) : Int)), .val (.int .u8 ((0 : Nat) : Int)), .val (.int .u8 ((0 : Nat) : Int)), .val (.int .u8 ((0 : Nat) : Int)), .val (.int .u8 ((0 : Nat) : Int)), .val (.int .u8 ((0 : Nat) : Int)), .val (.int .u8 ((0 : Nat) : Int)), .val (.int .u8 ((0 : Nat) : Int)), .val (.int .u8 ((0 : Nat) : Int)), .val (.int .u8 ((0 : Nat) : Int)), .val (.int .u8 ((0 : Nat) : Int)), .val (.int .u8 ((0 : Nat) : Int)), .val (.int .u8 ((0 : Nat) : Int)), .val (.int .u8 ((0 : Nat) : Int)), .val (.int .u8 ((0 : Nat) : Int)), .val (.int .u8 ((0 : Nat) : Int)), .val (.int .u8 ((0 : Nat) : Int)), .val (.int .u8 ((0 : Nat) : Int))])),
  ⟨none, .s (.store 20 (.t 14) (.t 55)), none⟩] [8, 11, 13, 14, 51])
 Og)
def OE : Af := .seq (.cond (.t 53)
 (.skip)
 (.exit 2))
 OI
def NQ : Af := .seq (.ops [so_ 52 (.nxtM (.t 51)),
  po_ 53 (.ext 0 (.t 52))] [8, 11, 13, 51, 53])
 OE
def KT : Af := .block 2 (.loop [8, 11, 13, 51] NQ)
def Kt : Af := .draw 8 [mv_ 87 17,
  mv_ 88 17,
  po_ 89 (.nilc (.t 88)),
  po_ 90 (.load false 1 (.t 89)),
  mv_ 91 8,
  po_ 92 (.nilc (.t 91)),
  po_ 93 (.fieldA 0 0 (.t 92)),
  po_ 94 (.load false 1 (.t 93)),
  po_ 95 (.load true 20 (.t 18)),
  po_ 96 (.gen (.look (.arr 20) (.agg [.arr 20 1 [.val (.int .u8 ((0 : Nat) : Int)), .val (.int .u8 ((0 : Nat) : Int)), .val (.int .u8 ((0 : Nat) : Int)), .val (.int .u8 ((0 : Nat) : Int)), .val (.int .u8 ((0 : Nat) : Int)), .val (.int .u8 ((0 : Nat) : Int)), .val (.int .u8 ((0 : Nat) : Int)), .val (.int .u8 ((0 : Nat) : Int)), .val (.int .u8 ((0 : Nat) : Int)), .val (.int .u8 ((0 : Nat) : Int)), .val (.int .u8 ((0 : Nat) : Int)), .val (.int .u8 ((0 : Nat) : Int)), .val (.int .u8 ((0 : Nat) : Int)), .val (.int .u8 ((0 : Nat) : Int)), .val (.int .u8 ((0 : Nat) : Int)), .val (.int .u8 ((0 : Nat) : Int)), .val (.int .u8 ((0 : Nat) : Int)), .val (.int .u8 ((0 : Nat) : Int)), .val (.int .u8 ((0 : Nat) : Int)), .val (.int .u8 ((0 : Nat) : Int))], .val (.slice none 0 0), .val (.int .i64 ((0 : Nat) : Int))]) false) [.t 94, .t 95]),
  ⟨some 97, .s (.bslice 22 1 (.agg [.arr 20 1 [.val (.int .u8 ((0 : Nat) : Int)), .val (.int .u8 ((0 : Nat) : Int)), .val (.int .u8 ((0 : Nat) : Int)), .val (.int .u8 ((0 : Nat) : Int)), .val (.int .u8 ((0 : Nat) : Int)), .val (.int .u8 ((0 : Nat) : Int)), .val (.int .u8 ((0 : Nat) : Int)), .val (.int .u8 ((0 : Nat) : Int)), .val (.int .u8 ((0 : Nat) : Int)), .val (.int .u8 ((0 : Nat) : Int)), .val (.int .u8 ((0 : Nat) : Int)), .val (.int .u8 ((0 : Nat) : Int)), .val (.int .u8 ((0 : Nat) : Int)), .val (.int .u8 ((0 : Nat) : Int)), .val (.int .u8 ((0 : Nat) : Int)), .val (.int .u8 ((0 : Nat) : Int)), .val (.int .u8 ((0 : Nat) : Int)), .val (.int .u8 ((0 : Nat) : Int)), .val (.int .u8 ((0 : Nat) : Int)), .val (.int .u8 ((0 : Nat) : Int))], .val (.slice none 0 0), .val (.int .i64 ((0 : Nat) : Int))]) [⟨0, .t 96⟩]), none⟩,
  so_ 98 (.app 22 56 51 (.t 90) (.t 97)),
  po_ 99 (.nilc (.t 87)),
  ⟨none, .s (.store 1 (.t 99) (.t 98)), none⟩] [8, 11, 13, 17, 78]
def LW : Af := .cond (.t 86)
 Kt
 (.skip)
def Mc : Af := .seq (.ops [mv_ 83 13,
  po_ 84 (.load true 20 (.t 18)),
  po_ 85 (.gen (.look (.arr 20) (.val (.int .i64 ((0 : Nat) : Int))) false) [.t 83, .t 84]),
  po_ 86 (.bin 3 .eql (.t 85) (ci_ 0))] [8, 11, 13, 17, 18, 78, 86])
 LW
def KC : Af := .block 7 (.seq (.ops [po_ 81 (.gen .entM [.t 78]),
  po_ 82 (.ext 0 (.t 81)),
  so_ 18 (.alloc (.arr 20 1 [.val (.int .u8 ((0 : Nat) : Int)), .val (.int .u8 ((0 : Nat) : Int)), .val (.int .u8 ((0 : Nat) : Int)), .val (.int .u8 ((0 : Nat) : Int)), .val (.int .u8 ((0 : Nat) : Int)), .val (.int .u8 ((0 : Nat) : Int)), .val (.int .u8 ((0 : Nat) : Int)), .val (.int .u8 ((0 : Nat) : Int)), .val (.int .u8 ((0 : Nat) : Int)), .val (.int .u8 ((0 : Nat) : Int)), .val (.int .u8 ((0 : Nat) : Int)), .val (.int .u8 ((0 : Nat) : Int)), .val (.int .u8 ((0 : Nat) : Int)), .val (.int .u8 ((0 : Nat) : Int)), .val (.int .u8 ((0 : Nat) : Int)), .val (.int .u8 ((0 : Nat) : Int)), .val (.int .u8 ((0 : Nat) : Int)), .val (.int .u8 ((0 : Nat) : Int)), .val (.int .u8 ((0 : Nat) : Int)), .val (.int .u8 ((0 : Nat) : Int))])),
  ⟨none, .s (.store 20 (.t 18) (.t 82)), none⟩] [8, 11, 13, 17, 18, 78])
 Mc)
def MB : Af := .seq (.cond (.t 80)
 (.skip)
 (.exit 6))
 KC
def LY : Af := .seq (.ops [so_ 79 (.nxtM (.t 78)),
  po_ 80 (.ext 0 (.t 79))] [8, 11, 13, 17, 78, 80])
 MB
def LJ : Af := .block 6 (.ownB 17 [] 22 (.loop [8, 11, 13, 17, 78] LY))
def L6 : Af := .draw 6 [mv_ 139 17,
  po_ 140 (.iface 64 (.t 139)),
  mv_ 141 8,
  po_ 142 (.nilc (.t 141)),
  po_ 143 (.fieldA 0 0 (.t 142)),
  po_ 144 (.load false 1 (.t 143)),
  po_ 145 (.load true 20 (.t 22)),
  po_ 146 (.gen (.look (.arr 20) (.agg [.arr 20 1 [.val (.int .u8 ((0 : Nat) : Int)), .val (.int .u8 ((0 : Nat) : Int)), .val (.int .u8 ((0 : Nat) : Int)), .val (.int .u8 ((0 : Nat) : Int)), .val (.int .u8 ((0 : Nat) : Int)), .val (.int .u8 ((0 : Nat) : Int)), .val (.int .u8 ((0 : Nat) : Int)), .val (.int .u8 ((0 : Nat) : Int)), .val (.int .u8 ((0 : Nat) : Int)), .val (.int .u8 ((0 : Nat) : Int)), .val (.int .u8 ((0 : Nat) : Int)), .val (.int .u8 ((0 : Nat) : Int)), .val (.int .u8 ((0 : Nat) : Int)), .val (.int .u8 ((0 : Nat) : Int)), .val (.int .u8 ((0 : Nat) : Int)), .val (.int .u8 ((0 : Nat) : Int)), .val (.int .u8 ((0 : Nat) : Int)), .val (.int .u8 ((0 : Nat) : Int)), .val (.int .u8 ((0 : Nat) : Int)), .val (.int .u8 ((0 : Nat) : Int))], .val (.slice none 0 0), .val (.int .i64 ((0 : Nat) : Int))]) false) [.t 144, .t 145]),
  po_ 147 (.iface 51 (.t 146)),
  so_ 148 (.call 26 [.t 140, .t 147])] [8, 11, 13, 17, 19, 118, 119, 120]
def Ls : Af := .seq (.ops [mv_ 130 13,
  po_ 131 (.load true 20 (.t 22)),
  po_ 132 (.gen (.look (.arr 20) (.val (.int .i64 ((0 : Nat) : Int))) false) [.t 130, .t 131]),
  po_ 133 (.bin 3 .eql (.t 132) (ci_ 0)),
  mv_ 134 133,
  ⟨some 135, .p (.mov (.t 11)), some ⟨134, true⟩⟩,
  ⟨some 136, .p (.load true 20 (.t 22)), some ⟨134, true⟩⟩,
  ⟨some 137, .s (.call 25 [.t 135, .t 136]), some ⟨134, true⟩⟩,
  po_ 138 (.pick (.t 134) (.t 137) (.c (.bool false)))] [8, 11, 13, 17, 19, 22, 118, 119, 120, 138])
 (.cond (.t 138)
 L6
 (.skip))
def MC : Af := .seq (.draw 4 [mv_ 124 13,
  po_ 125 (.load true 20 (.t 22)),
  po_ 126 (.gen (.look (.arr 20) (.val (.int .i64 ((0 : Nat) : Int))) false) [.t 124, .t 125]),
  po_ 127 (.bin 3 .sub (.t 126) (ci_ 1)),
  so_ 128 (.ment (.arr 20) (.val (.int .i64 ((0 : Nat) : Int))) (.t 124) (.t 125)),
  po_ 129 (.ext 1 (.t 128)),
  ⟨none, .s (.mest (.t 124) (.t 129) (.t 127)), none⟩] [8, 11, 13, 17, 19, 22, 118, 119, 120])
 Ls
def L8 : Af := .seq (.block 11 (.seq (.ops [po_ 122 (.idxA 20 (.t 118) (.t 120)),
  po_ 123 (.load true 20 (.t 122)),
  so_ 22 (.alloc (.arr 20 1 [.val (.int .u8 ((0 : Nat) : Int)), .val (.int .u8 ((0 : Nat) : Int)), .val (.int .u8 ((0 : Nat) : Int)), .val (.int .u8 ((0 : Nat) : Int)), .val (.int .u8 ((0 : Nat) : Int)), .val (.int .u8 ((0 : Nat) : Int)), .val (.int .u8 ((0 : Nat) : Int)), .val (.int .u8 ((0 : Nat) : Int)), .val (.int .u8 ((0 : Nat) : Int)), .val (.int .u8 ((0 : Nat) : Int)), .val (.int .u8 ((0 : Nat) : Int)), .val (.int .u8 ((0 : Nat) : Int)), .val (.int .u8 ((0 : Nat) : Int)), .val (.int .u8 ((0 : Nat) : Int)), .val (.int .u8 ((0 : Nat) : Int)), .val (.int .u8 ((0 : Nat) : Int)), .val (.int .u8 ((0 : Nat) : Int)), .val (.int .u8 ((0 : Nat) : Int)), .val (.int .u8 ((0 : Nat) : Int)), .val (.int .u8 ((0 : Nat) : Int))])),
  ⟨none, .s (.store 20 (.t 22) (.t 123)), none⟩] [8, 11, 13, 17, 19, 22, 118, 119, 120])
 MC))
 (.ops [po_ 149 (.bin 3 .add (.t 120) (ci_ 1)),
  mv_ 120 149] [8, 11, 13, 17, 19, 118, 119, 120])
def LP : Af := .seq (.cond (.t 121)
 (.skip)
 (.exit 10))
 L8
def KE : Af := .seq (.ops [po_ 121 (.bin 3 .lss (.t 120) (.t 119))] [8, 11, 13, 17, 19, 118, 119, 120, 121])
 LP
def Gy : Af := .block 10 (.loop [8, 11, 13, 17, 19, 118, 119, 120] KE)
def Kv : Af := .seq (.ops [po_ 117 (.fieldA 1 20 (.t 20)),
  po_ 118 (.load false 1 (.t 117)),
  po_ 119 (.lenV (.t 118)),
  po_ 120 (.mov (ci_ 0))] [8, 11, 13, 17, 19, 118, 119, 120])
 Gy
def KJ : Af := .seq (.ops [mv_ 112 19,
  po_ 113 (.fieldA 0 0 (.t 20)),
  po_ 114 (.load true 20 (.t 113)),
  ⟨some 115, .s (.bslice 20 1 (.arr 20 1 [.val (.int .u8 ((0 : Nat) : Int)), .val (.int .u8 ((0 : Nat) : Int)), .val (.int .u8 ((0 : Nat) : Int)), .val (.int .u8 ((0 : Nat) : Int)), .val (.int .u8 ((0 : Nat) : Int)), .val (.int .u8 ((0 : Nat) : Int)), .val (.int .u8 ((0 : Nat) : Int)), .val (.int .u8 ((0 : Nat) : Int)), .val (.int .u8 ((0 : Nat) : Int)), .val (.int .u8 ((0 : Nat) : Int)), .val (.int .u8 ((0 : Nat) : Int)), .val (.int .u8 ((0 : Nat) : Int)), .val (.int .u8 ((0 : Nat) : Int)), .val (.int .u8 ((0 : Nat) : Int)), .val (.int .u8 ((0 : Nat) : Int)), .val (.int .u8 ((0 : Nat) : Int)), .val (.int .u8 ((0 : Nat) : Int)), .val (.int .u8 ((0 : Nat) : Int)), .val (.int .u8 ((0 : Nat) : Int)), .val (.int .u8 ((0 : Nat) : Int))]) [⟨0, .t 114⟩]), none⟩,
  so_ 116 (.app 20 20 40 (.t 112) (.t 115)),
  mv_ 19 116] [8, 11, 13, 17, 19, 20])
 Kv
def Md : Af := .block 9 (.seq (.ops [mv_ 108 17,
  po_ 109 (.iface 64 (.t 108)),
  so_ 110 (.call 24 [.t 109]),
  po_ 111 (.gen (.tas 51) [.t 110]),
  so_ 20 (.alloc (.agg [.arr 20 1 [.val (.int .u8 ((0 : Nat) : Int)), .val (.int .u8 ((0 : Nat) : Int)), .val (.int .u8 ((0 : Nat) : Int)), .val (.int .u8 ((0 : Nat) : Int)), .val (.int .u8 ((0 : Nat) : Int)), .val (.int .u8 ((0 : Nat) : Int)), .val (.int .u8 ((0 : Nat) : Int)), .val (.int .u8 ((0 : Nat) : Int)), .val (.int .u8 ((0 : Nat) : Int)), .val (.int .u8 ((0 : Nat) : Int)), .val (.int .u8 ((0 : Nat) : Int)), .val (.int .u8 ((0 : Nat) : Int)), .val (.int .u8 ((0 : Nat) : Int)), .val (.int .u8 ((0 : Nat) : Int)), .val (.int .u8 ((0 : Nat) : Int)), .val (.int .u8 ((0 : Nat) : Int)), .val (.int .u8 ((0 : Nat) : Int)), .val (.int .u8 ((0 : Nat) : Int)), .val (.int .u8 ((0 : Nat) : Int)), .val (.int .u8 ((0 : Nat) : Int))], .val (.slice none 0 0), .val (.int .i64 ((0 : Nat) : Int))])),
  ⟨none, .s (.store 22 (.t 20) (.t 111)), none⟩] [8, 11, 13, 17, 19, 20])
 KJ)
def LX : Af := .seq (.seq (.ops [mv_ 103 17,
  po_ 104 (.nilc (.t 103)),
  po_ 105 (.load false 1 (.t 104)),
  so_ 106 (.call 23 [.t 105]),
  po_ 107 (.bin 3 .gtr (.t 106) (ci_ 0))] [8, 11, 13, 17, 19, 107])
 (.cond (.t 107)
 (.skip)
 (.exit 8)))
 Md
def L9 : Af := .seq (.ops [mv_ 150 19,
  mv_ 6 150,
  po_ 7 (.mov (.c .nilIface))] [6, 7])
 (.ret)
def Ko : Af := .seq (.block 8 (.own 19 20 (.loop [8, 11, 13, 17, 19] LX)))
 L9
def GG : Af := .seq (.ops [po_ 19 (.mov (.c (.slice none 0 0)))] [8, 11, 13, 17, 19])
 Ko
def J7 : Af := .seq (.ops [mv_ 100 17,
  po_ 101 (.iface 64 (.t 100)),
  so_ 102 (.call 22 [.t 101])] [8, 11, 13, 17])
 GG
def KW : Af := .seq (.seq (.ops [mv_ 77 11,
  so_ 78 (.rngM (.t 77))] [8, 11, 13, 17, 78])
 LJ)
 J7
def Gx : Af := .seq (.ops [so_ 75 (.bslice 22 0 (.agg [.arr 20 1 [.val (.int .u8 ((0 : Nat) : Int)), .val (.int .u8 ((0 : Nat) : Int)), .val (.int .u8 ((0 : Nat) : Int)), .val (.int .u8 ((0 : Nat) : Int)), .val (.int .u8 ((0 : Nat) : Int)), .val (.int .u8 ((0 : Nat) : Int)), .val (.int .u8 ((0 : Nat) : Int)), .val (.int .u8 ((0 : Nat) : Int)), .val (.int .u8 ((0 : Nat) : Int)), .val (.int .u8 ((0 : Nat) : Int)), .val (.int .u8 ((0 : Nat) : Int)), .val (.int .u8 ((0 : Nat) : Int)), .val (.int .u8 ((0 : Nat) : Int)), .val (.int .u8 ((0 : Nat) : Int)), .val (.int .u8 ((0 : Nat) : Int)), .val (.int .u8 ((0 : Nat) : Int)), .val (.int .u8 ((0 : Nat) : Int)), .val (.int .u8 ((0 : Nat) : Int)), .val (.int .u8 ((0 : Nat) : Int)), .val (.int .u8 ((0 : Nat) : Int))], .val (.slice none 0 0), .val (.int .i64 ((0 : Nat) : Int))]) []),
  so_ 76 (.box (.t 75)),
  mv_ 17 76] [8, 11, 13, 17])
 KW
def LU : Af := .seq (.seq (.ops [mv_ 50 11,
  so_ 51 (.rngM (.t 50))] [8, 11, 13, 51])
 KT)
 Gx
def Gz : Af := .seq (.ops [so_ 49 (.mkm (.arr 20) none),
  mv_ 13 49] [8, 11, 13])
 LU
def GK : Af := .seq (.seq (.ops [mv_ 41 10,
  so_ 42 (.rngM (.t 41))] [8, 11, 42])
 (.block 0 (.loop [8, 11, 42] NI)))
 Gz
def Lm : Af := .seq (.ops [mv_ 38 8,
  mv_ 39 1,
  so_ 40 (.call 21 [.t 38, .t 39]),
  mv_ 11 40] [8, 10, 11])
 GK
def Ku : Af := .seq (.ops [mv_ 35 8,
  mv_ 36 2,
  so_ 37 (.call 21 [.t 35, .t 36]),
  mv_ 10 37] [1, 8, 10])
 Lm
def Kq : Af := .seq (.seq (.ops [mv_ 32 9,
  po_ 33 (.eqN 1 (.t 32) (.c .nilIface) true)] [1, 2, 8, 9, 33])
 (.cond (.t 33)
 (.seq (.ops [mv_ 34 9,
   po_ 6 (.mov (.c (.slice none 0 0))),
   mv_ 7 34] [6, 7])
  (.ret))
 (.skip)))
 Ku
def Lh : Af := .seq (.ops [mv_ 24 0,
  mv_ 25 1,
  mv_ 26 2,
  ⟨some 27, .s (.bslice 1 2 (.val (.slice none 0 0)) [⟨0, .t 25⟩, ⟨1, .t 26⟩]), none⟩,
  so_ 28 (.call 20 [.t 27]),
  so_ 29 (.call 19 [.t 24, .t 28]),
  mv_ 23 29,
  po_ 30 (.ext 0 (.t 23)),
  po_ 31 (.ext 1 (.t 23)),
  mv_ 8 30,
  mv_ 9 31] [1, 2, 8, 9])
 Kq
def Vy : Af := .seq (.ops [po_ 6 (.mov (.c (.slice none 0 0))),
  po_ 7 (.mov (.c .nilIface))] [0, 1, 2])
 Lh
def Ef : List VR := [.tmp 6, .tmp 7]
theorem AaU : Tryd.f7.body.bind (trC Tryd.prog Tryd.f7.ntmps) = some (er Vy) := by kernel_rfl
theorem Abf : trR Tryd.prog Tryd.f7.results.toList = some Ef := by kernel_rfl
def JH := Ac NI.eq_1
def Vs := Ac Pi.eq_1
def JE := Ac NG.eq_1
def JJ := Ac NZ.eq_1
def UZ := Ac OD.eq_1
def WE := Ac Og.eq_1
def VB := Ac OI.eq_1
def Jr := Ac OE.eq_1
def WA := Ac NQ.eq_1
def UI := Ac KT.eq_1
def Ux := Ac Kt.eq_1
def IU := Ac LW.eq_1
def IB := Ac Mc.eq_1
def IW := Ac KC.eq_1
def EK := Ac MB.eq_1
def UK := Ac LY.eq_1
def TS := Ac LJ.eq_1
def Uo := Ac L6.eq_1
def IC := Ac Ls.eq_1
def I7 := Ac MC.eq_1
def Je := Ac L8.eq_1
def EF := Ac LP.eq_1
def EG := Ac KE.eq_1
def Ub := Ac Gy.eq_1
def TN := Ac Kv.eq_1
def Un := Ac KJ.eq_1
def Iz := Ac Md.eq_1
def UE := Ac LX.eq_1
def UO := Ac L9.eq_1
def TT := Ac Ko.eq_1
def UB := Ac GG.eq_1
def Ut := Ac J7.eq_1
def Uj := Ac KW.eq_1
def Uk := Ac Gx.eq_1
def TR := Ac LU.eq_1
def Uf := Ac Gz.eq_1
def Ug := Ac GK.eq_1
def TL := Ac Lm.eq_1
def Uc := Ac Ku.eq_1
def IQ := Ac Kq.eq_1
def IE := Ac Lh.eq_1
def QN := Ac Vy.eq_1
theorem QV {K : TV → Prop} {e : Env} {H : List Ob} : res Ef e H K = res [.tmp 6, .tmp 7] e H K := Aa rfl
def ZR := DN 151 Tryd.func7 AaU Abf rfl

def Dt : Af := .seq (.block 1 (.seq (.ops [po_ 13 (.idxA 1 (.t 9) (.t 11)),
  po_ 14 (.load false 1 (.t 13)),
  mv_ 5 14] [0, 3, 5, 9, 10, 11])
 (.seq (.ops [mv_ 15 3,
  mv_ 16 5,
  po_ 17 (.lenV (.t 16)),
  po_ 18 (.bin 3 .add (.t 15) (.t 17)),
  mv_ 3 18] [0, 3, 9, 10, 11])
 (.seq (.ops [mv_ 19 3,
  po_ 20 (.bin 3 .lss (.t 19) (ci_ 0))] [0, 3, 9, 10, 11, 20])
 (.cond (.t 20)
 (.pops [po_ 21 (.iface 9 (.c (.string (str [108, 101, 110, 32, 111, 117, 116, 32, 111, 102, 32, 114, 97, 110, 103, 101])))),
   ⟨none, .s (.pan (.t 21)), none⟩] [0, 3, 9, 10, 11])
 (.skip))))))
 (.ops [po_ 22 (.bin 3 .add (.t 11) (ci_ 1)),
  mv_ 11 22] [0, 3, 9, 10, 11])
def Dw : Af := .seq (.cond (.t 12)
 (.skip)
 (.exit 0))
 Dt
def Dv : Af := .seq (.ops [po_ 12 (.bin 3 .lss (.t 11) (.t 10))] [0, 3, 9, 10, 11, 12])
 Dw
def Du : Af := .block 0 (.loop [0, 3, 9, 10, 11] Dv)
def BJ : Af := .seq (.ops [po_ 28 (.bin 3 .lss (.t 27) (.t 26))] [6, 25, 26, 27, 28])
 (.seq (.cond (.t 28)
 (.skip)
 (.exit 2))
 (.seq (.block 3 (.seq (.ops [po_ 29 (.idxA 1 (.t 25) (.t 27)),
  po_ 30 (.load false 1 (.t 29)),
  mv_ 8 30] [6, 8, 25, 26, 27])
 (.ops [mv_ 31 6,
  mv_ 32 8,
  so_ 33 (.app 20 20 40 (.t 31) (.t 32)),
  mv_ 6 33] [6, 25, 26, 27])))
 (.ops [po_ 34 (.bin 3 .add (.t 27) (ci_ 1)),
  mv_ 27 34] [6, 25, 26, 27])))
def BI : Af := .seq (.ops [mv_ 35 6,
  mv_ 2 35] [2])
 (.ret)
def Dj : Af := .seq (.seq (.ops [mv_ 25 0,
  po_ 26 (.lenV (.t 25)),
  po_ 27 (.mov (ci_ 0))] [6, 25, 26, 27])
 (.block 2 (.own 6 20 (.loop [6, 25, 26, 27] BJ))))
 BI
def Dl : Af := .seq (.ops [mv_ 23 3,
  so_ 24 (.call 37 [.c (.slice none 0 0), .t 23]),
  mv_ 6 24] [0, 6])
 Dj
def Dq : Af := .seq (.seq (.ops [mv_ 9 0,
  po_ 10 (.lenV (.t 9)),
  po_ 11 (.mov (ci_ 0))] [0, 3, 9, 10, 11])
 Du)
 Dl
def CW : Af := .seq (.ops [po_ 3 (.mov (ci_ 0))] [0, 3])
 Dq
def DR : Af := .seq (.ops [po_ 2 (.mov (.c (.slice none 0 0)))] [0])
 CW
def BR : List VR := [.tmp 2]
theorem H5 : Tryd.f20.body.bind (trC Tryd.prog Tryd.f20.ntmps) = some (er DR) := by kernel_rfl
theorem Ib : trR Tryd.prog Tryd.f20.results.toList = some BR := by kernel_rfl
def Ff := Ac Dt.eq_1
def CP := Ac Dw.eq_1
def CU := Ac Dv.eq_1
def Fh := Ac Du.eq_1
def Fa := Ac BJ.eq_1
def Fj := Ac BI.eq_1
def BA := Ac Dj.eq_1
def CQ := Ac Dl.eq_1
def Fe := Ac Dq.eq_1
def EC := Ac CW.eq_1
def Gu := Ac DR.eq_1
theorem GL {K : TV → Prop} {e : Env} {H : List Ob} : res BR e H K = res [.tmp 2] e H K := Aa rfl
def Bh := (And.intro (And.intro (And.intro (And.intro @Ff @CP) (And.intro @CU @Fh)) (And.intro (And.intro @Fa @Fj) (And.intro @BA @CQ))) (And.intro (And.intro @Fe @EC) (And.intro @Gu @GL)))
def He := DN 36 Tryd.func20 H5 Ib rfl

def DD : Af := .ops [mv_ 17 0,
  mv_ 18 0,
  po_ 19 (.gen .capV [.t 18]),
  po_ 20 (.slV 20 (.t 17) none (some (.t 19))),
  mv_ 21 1,
  so_ 22 (.appZ 20 20 (.arr 20 1 [.val (.int .u8 ((0 : Nat) : Int)), .val (.int .u8 ((0 : Nat) : Int)), .val (.int .u8 ((0 : Nat) : Int)), .val (.int .u8 ((0 : Nat) : Int)), .val (.int .u8 ((0 : Nat) : Int)), .val (.int .u8 ((0 : Nat) : Int)), .val (.int .u8 ((0 : Nat) : Int)), .val (.int .u8 ((0 : Nat) : Int)), .val (.int .u8 ((0 : Nat) : Int)), .val (.int .u8 ((0 : Nat) : Int)), .val (.int .u8 ((0 : Nat) : Int)), .val (.int .u8 ((0 : Nat) : Int)), .val (.int .u8 ((0 : Nat) : Int)), .val (.int .u8 ((0 : Nat) : Int)), .val (.int .u8 ((0 : Nat) : Int)), .val (.int .u8 ((0 : Nat) : Int)), .val (.int .u8 ((0 : Nat) : Int)), .val (.int .u8 ((0 : Nat) : Int)), .val (.int .u8 ((0 : Nat) : Int)), .val (.int .u8 ((0 : Nat) : Int))]) (.t 20) (.t 21)),
  mv_ 23 0,
  po_ 24 (.lenV (.t 23)),
  po_ 25 (.slV 20 (.t 22) none (some (.t 24))),
  mv_ 0 25] [0]
def DI : Af := .seq (.seq (.ops [mv_ 8 1,
  mv_ 9 0,
  po_ 10 (.gen .capV [.t 9]),
  mv_ 11 0,
  po_ 12 (.lenV (.t 11)),
  po_ 13 (.bin 3 .sub (.t 10) (.t 12)),
  po_ 14 (.bin 3 .sub (.t 8) (.t 13)),
  mv_ 1 14] [0, 1])
 (.seq (.ops [mv_ 15 1,
  po_ 16 (.bin 3 .gtr (.t 15) (ci_ 0))] [0, 1, 16])
 (.cond (.t 16)
 DD
 (.skip))))
 (.seq (.ops [mv_ 26 0,
  mv_ 4 26] [4])
 (.ret))
def DC : Af := .seq (.seq (.ops [mv_ 5 1,
  po_ 6 (.bin 3 .lss (.t 5) (ci_ 0))] [0, 1, 6])
 (.cond (.t 6)
 (.pops [po_ 7 (.iface 9 (.c (.string (str [99, 97, 110, 110, 111, 116, 32, 98, 101, 32, 110, 101, 103, 97, 116, 105, 118, 101])))),
   ⟨none, .s (.pan (.t 7)), none⟩] [0, 1])
 (.skip)))
 DI
def Ed : Af := .seq (.ops [po_ 4 (.mov (.c (.slice none 0 0)))] [0, 1])
 DC
def Ee : List VR := [.tmp 4]
theorem IL : Tryd.f37.body.bind (trC Tryd.prog Tryd.f37.ntmps) = some (er Ed) := by kernel_rfl
theorem IK : trR Tryd.prog Tryd.f37.results.toList = some Ee := by kernel_rfl
def FT := Ac DD.eq_1
def FV := Ac DI.eq_1
def FW := Ac DC.eq_1
def Ia := Ac Ed.eq_1
theorem H7 {K : TV → Prop} {e : Env} {H : List Ob} : res Ee e H K = res [.tmp 4] e H K := Aa rfl
def D9 := (And.intro (And.intro (And.intro @FT @FV) (And.intro @FW @Ia)) @H7)
def Ik := DN 27 Tryd.func37 IL IK rfl

def Qp : Af := .seq (.block 1 (.ops [mv_ 46 11,
  mv_ 47 13,
  mv_ 48 11,
  mv_ 49 13,
  po_ 50 (.idxA 1 (.t 48) (.t 49)),
  po_ 51 (.load false 1 (.t 50)),
  mv_ 52 51,
  ⟨some 53, .p (.mov (.t 12)), some ⟨52, true⟩⟩,
  ⟨some 54, .p (.mov (.t 13)), some ⟨52, true⟩⟩,
  ⟨some 55, .p (.idxA 1 (.t 53) (.t 54)), some ⟨52, true⟩⟩,
  ⟨some 56, .p (.load false 1 (.t 55)), some ⟨52, true⟩⟩,
  ⟨some 57, .p (.un .not (.t 56)), some ⟨52, true⟩⟩,
  po_ 58 (.pick (.t 52) (.t 57) (.c (.bool false))),
  po_ 59 (.idxA 1 (.t 46) (.t 47)),
  ⟨none, .s (.store 1 (.t 59) (.t 58)), none⟩] [0, 11, 12, 13]))
 (.ops [mv_ 44 13,
  po_ 45 (.bin 3 .add (.t 44) (ci_ 1)),
  mv_ 13 45] [0, 11, 12, 13])
def PQ : Af := .seq (.seq (.ops [mv_ 40 13,
  mv_ 41 0,
  po_ 42 (.lenV (.t 41)),
  po_ 43 (.bin 3 .lss (.t 40) (.t 42))] [0, 11, 12, 13, 43])
 (.cond (.t 43)
 (.skip)
 (.exit 0)))
 Qp
def QJ : Af := .block 0 (.loop [0, 11, 12, 13] PQ)
def Qe : Af := .seq (.ops [mv_ 66 11,
  mv_ 67 15,
  po_ 68 (.idxA 1 (.t 66) (.t 67)),
  ⟨none, .s (.store 1 (.t 68) (.c (.bool false))), none⟩] [0, 11, 14, 15])
 (.ops [mv_ 69 14,
  mv_ 70 0,
  mv_ 71 15,
  po_ 72 (.idxA 22 (.t 70) (.t 71)),
  po_ 73 (.fieldA 0 0 (.t 72)),
  po_ 74 (.load true 20 (.t 73)),
  ⟨some 75, .s (.bslice 20 1 (.arr 20 1 [.val (.int .u8 ((0 : Nat) : Int)), .val (.int .u8 ((0 : Nat) : Int)), .val (.int .u8 ((0 : Nat) : Int)), .val (.int .u8 ((0 : Nat) : Int)), .val (.int .u8 ((0 : Nat) : Int)), .val (.int .u8 ((0 : Nat) : Int)), .val (.int .u8 ((0 : Nat) : Int)), .val (.int .u8 ((0 : Nat) : Int)), .val (.int .u8 ((0 : Nat) : Int)), .val (.int .u8 ((0 : Nat) : Int)), .val (.int .u8 ((0 : Nat) : Int)), .val (.int .u8 ((0 : Nat) : Int)), .val (.int .u8 ((0 : Nat) : Int)), .val (.int .u8 ((0 : Nat) : Int)), .val (.int .u8 ((0 : Nat) : Int)), .val (.int .u8 ((0 : Nat) : Int)), .val (.int .u8 ((0 : Nat) : Int)), .val (.int .u8 ((0 : Nat) : Int)), .val (.int .u8 ((0 : Nat) : Int)), .val (.int .u8 ((0 : Nat) : Int))]) [⟨0, .t 74⟩]), none⟩,
  so_ 76 (.app 20 20 39 (.t 69) (.t 75)),
  mv_ 14 76] [0, 11, 14])
def Ri : Af := .seq (.seq (.ops [mv_ 63 15,
  po_ 64 (.bin 3 .lss (.t 63) (ci_ 0))] [0, 11, 14, 15, 64])
 (.cond (.t 64)
 (.seq (.ops [mv_ 65 14,
   mv_ 6 65,
   po_ 7 (.mov (ci_ 0))] [6, 7])
  (.ret))
 (.skip)))
 Qe
def Rz : Af := .block 3 (.seq (.ops [mv_ 60 0,
  mv_ 61 11,
  so_ 62 (.call 30 [.t 60, .t 61]),
  mv_ 15 62] [0, 11, 14, 15])
 Ri)
def P5 : Af := .block 2 (.own 14 20 (.loop [0, 11, 14] Rz))
def Qs : Af := .seq (.ops [po_ 14 (.mov (.c (.slice none 0 0)))] [0, 11, 14])
 P5
def QY : Af := .seq (.seq (.ops [po_ 13 (.mov (ci_ 0))] [0, 11, 12, 13])
 QJ)
 Qs
def O6 : Af := .seq (.ops [mv_ 37 0,
  mv_ 38 2,
  so_ 39 (.call 29 [.t 37, .t 38]),
  mv_ 12 39] [0, 11, 12])
 QY
def Pm : Af := .seq (.ops [mv_ 34 0,
  mv_ 35 1,
  so_ 36 (.call 29 [.t 34, .t 35]),
  mv_ 11 36] [0, 2, 11])
 O6
def NK : Af := .seq (.seq (.ops [mv_ 24 8,
  po_ 25 (.bin 3 .neq (.t 24) (ci_ 0)),
  mv_ 26 25,
  ⟨some 27, .p (.mov (.t 9)), some ⟨26, false⟩⟩,
  ⟨some 28, .p (.un .not (.t 27)), some ⟨26, false⟩⟩,
  po_ 29 (.pick (.t 26) (.c (.bool true)) (.t 28)),
  mv_ 30 29,
  ⟨some 31, .p (.mov (.t 10)), some ⟨30, false⟩⟩,
  ⟨some 32, .p (.un .not (.t 31)), some ⟨30, false⟩⟩,
  po_ 33 (.pick (.t 30) (.c (.bool true)) (.t 32))] [0, 1, 2, 33])
 (.cond (.t 33)
 (.seq (.ops [po_ 6 (.mov (.c (.slice none 0 0))),
   po_ 7 (.mov (ci_ 80))] [6, 7])
  (.ret))
 (.skip)))
 Pm
def O4 : Af := .seq (.ops [mv_ 21 0,
  mv_ 22 2,
  so_ 23 (.call 28 [.t 21, .t 22]),
  mv_ 10 23] [0, 1, 2, 8, 9, 10])
 NK
def O5 : Af := .seq (.ops [mv_ 18 0,
  mv_ 19 1,
  so_ 20 (.call 28 [.t 18, .t 19]),
  mv_ 9 20] [0, 1, 2, 8, 9])
 O4
def Oh : Af := .seq (.ops [mv_ 16 0,
  so_ 17 (.call 27 [.t 16]),
  mv_ 8 17] [0, 1, 2, 8])
 O5
def Yp : Af := .seq (.ops [po_ 6 (.mov (.c (.slice none 0 0))),
  po_ 7 (.mov (ci_ 0))] [0, 1, 2])
 Oh
def Yw : List VR := [.tmp 6, .tmp 7]
theorem AcK : Tryd.f10.body.bind (trC Tryd.prog Tryd.f10.ntmps) = some (er Yp) := by kernel_rfl
theorem AcZ : trR Tryd.prog Tryd.f10.results.toList = some Yw := by kernel_rfl
def XV := Ac Qp.eq_1
def J4 := Ac PQ.eq_1
def Lj := Ac QJ.eq_1
def Xx := Ac Qe.eq_1
def Xt := Ac Ri.eq_1
def J6 := Ac Rz.eq_1
def KA := Ac P5.eq_1
def LD := Ac Qs.eq_1
def J8 := Ac QY.eq_1
def FP := Ac O6.eq_1
def FI := Ac Pm.eq_1
def Jq := Ac NK.eq_1
def WT := Ac O4.eq_1
def U0 := Ac O5.eq_1
def Vh := Ac Oh.eq_1
def Aao := Ac Yp.eq_1
theorem Z5 {K : TV → Prop} {e : Env} {H : List Ob} : res Yw e H K = res [.tmp 6, .tmp 7] e H K := Aa rfl
def BX := (And.intro (And.intro (And.intro (And.intro (And.intro @XV @J4) (And.intro @Lj @Xx)) (And.intro (And.intro @Xt @J6) (And.intro @KA @LD))) (And.intro (And.intro (And.intro @J8 @FP) (And.intro @FI @Jq)) (And.intro (And.intro @WT @U0) (And.intro @Vh @Aao)))) @Z5)
def Abb := DN 77 Tryd.func10 AcK AcZ rfl

def Tn : Af := .seq (.block 5 (.seq (.draw 14 [mv_ 39 1,
  mv_ 40 8,
  po_ 41 (.idxA 1 (.t 39) (.t 40)),
  po_ 42 (.load false 1 (.t 41)),
  mv_ 43 42,
  ⟨some 44, .p (.mov (.t 0)), some ⟨43, true⟩⟩,
  ⟨some 45, .p (.mov (.t 8)), some ⟨43, true⟩⟩,
  ⟨some 46, .p (.idxA 22 (.t 44) (.t 45)), some ⟨43, true⟩⟩,
  ⟨some 47, .p (.fieldA 1 20 (.t 46)), some ⟨43, true⟩⟩,
  ⟨some 48, .p (.load false 1 (.t 47)), some ⟨43, true⟩⟩,
  ⟨some 49, .p (.mov (.t 9)), some ⟨43, true⟩⟩,
  ⟨some 50, .p (.idxA 20 (.t 48) (.t 49)), some ⟨43, true⟩⟩,
  ⟨some 51, .p (.load true 20 (.t 50)), some ⟨43, true⟩⟩,
  ⟨some 52, .p (.mov (.t 0)), some ⟨43, true⟩⟩,
  ⟨some 53, .p (.mov (.t 6)), some ⟨43, true⟩⟩,
  ⟨some 54, .p (.idxA 22 (.t 52) (.t 53)), some ⟨43, true⟩⟩,
  ⟨some 55, .p (.fieldA 0 0 (.t 54)), some ⟨43, true⟩⟩,
  ⟨some 56, .p (.load true 20 (.t 55)), some ⟨43, true⟩⟩,
  ⟨some 57, .p (.gen (.eqA 20 false) [.t 51, .t 56]), some ⟨43, true⟩⟩,
  po_ 58 (.pick (.t 43) (.t 57) (.c (.bool false)))] [0, 1, 5, 6, 7, 8, 9, 58])
 (.cond (.t 58)
 (.ops [po_ 7 (.mov (.c (.bool false)))] [0, 1, 5, 6, 7, 8, 9])
 (.skip))))
 (.ops [mv_ 37 9,
  po_ 38 (.bin 3 .add (.t 37) (ci_ 1)),
  mv_ 9 38] [0, 1, 5, 6, 7, 8, 9])
def TA : Af := .seq (.seq (.ops [mv_ 29 9,
  mv_ 30 0,
  mv_ 31 8,
  po_ 32 (.idxA 22 (.t 30) (.t 31)),
  po_ 33 (.fieldA 1 20 (.t 32)),
  po_ 34 (.load false 1 (.t 33)),
  po_ 35 (.lenV (.t 34)),
  po_ 36 (.bin 3 .lss (.t 29) (.t 35))] [0, 1, 5, 6, 7, 8, 9, 36])
 (.cond (.t 36)
 (.skip)
 (.exit 4)))
 Tn
def Tm : Af := .block 4 (.loop [0, 1, 5, 6, 7, 8, 9] TA)
def SS : Af := .ops [mv_ 27 8,
  po_ 28 (.bin 3 .add (.t 27) (ci_ 1)),
  mv_ 8 28] [0, 1, 5, 6, 7, 8]
def Tf : Af := .seq (.block 3 (.seq (.ops [po_ 9 (.mov (ci_ 0))] [0, 1, 5, 6, 7, 8, 9])
 Tm))
 SS
def Tq : Af := .seq (.seq (.ops [mv_ 20 8,
  mv_ 21 0,
  po_ 22 (.lenV (.t 21)),
  po_ 23 (.bin 3 .lss (.t 20) (.t 22)),
  mv_ 24 23,
  ⟨some 25, .p (.mov (.t 7)), some ⟨24, true⟩⟩,
  po_ 26 (.pick (.t 24) (.t 25) (.c (.bool false)))] [0, 1, 5, 6, 7, 8, 26])
 (.cond (.t 26)
 (.skip)
 (.exit 2)))
 Tf
def Tu : Af := .block 2 (.loop [0, 1, 5, 6, 7, 8] Tq)
def JU : Af := .seq (.draw 37 [mv_ 59 7,
  mv_ 60 59,
  ⟨some 61, .p (.mov (.t 5)), some ⟨60, true⟩⟩,
  ⟨some 62, .p (.bin 3 .lss (.t 61) (ci_ 0)), some ⟨60, true⟩⟩,
  ⟨some 63, .p (.mov (.t 62)), some ⟨60, true⟩⟩,
  ⟨some 64, .p (.mov (.t 0)), some ⟨63, false⟩⟩,
  ⟨some 65, .p (.mov (.t 6)), some ⟨63, false⟩⟩,
  ⟨some 66, .p (.idxA 22 (.t 64) (.t 65)), some ⟨63, false⟩⟩,
  ⟨some 67, .p (.fieldA 2 21 (.t 66)), some ⟨63, false⟩⟩,
  ⟨some 68, .p (.load false 1 (.t 67)), some ⟨63, false⟩⟩,
  ⟨some 69, .p (.mov (.t 0)), some ⟨63, false⟩⟩,
  ⟨some 70, .p (.mov (.t 5)), some ⟨63, false⟩⟩,
  ⟨some 71, .p (.idxA 22 (.t 69) (.t 70)), some ⟨63, false⟩⟩,
  ⟨some 72, .p (.fieldA 2 21 (.t 71)), some ⟨63, false⟩⟩,
  ⟨some 73, .p (.load false 1 (.t 72)), some ⟨63, false⟩⟩,
  ⟨some 74, .p (.bin 3 .gtr (.t 68) (.t 73)), some ⟨63, false⟩⟩,
  ⟨some 75, .p (.pick (.t 63) (.c (.bool true)) (.t 74)), some ⟨60, true⟩⟩,
  ⟨some 76, .p (.mov (.t 75)), some ⟨60, true⟩⟩,
  ⟨some 77, .p (.mov (.t 0)), some ⟨76, false⟩⟩,
  ⟨some 78, .p (.mov (.t 6)), some ⟨76, false⟩⟩,
  ⟨some 79, .p (.idxA 22 (.t 77) (.t 78)), some ⟨76, false⟩⟩,
  ⟨some 80, .p (.fieldA 2 21 (.t 79)), some ⟨76, false⟩⟩,
  ⟨some 81, .p (.load false 1 (.t 80)), some ⟨76, false⟩⟩,
  ⟨some 82, .p (.mov (.t 0)), some ⟨76, false⟩⟩,
  ⟨some 83, .p (.mov (.t 5)), some ⟨76, false⟩⟩,
  ⟨some 84, .p (.idxA 22 (.t 82) (.t 83)), some ⟨76, false⟩⟩,
  ⟨some 85, .p (.fieldA 2 21 (.t 84)), some ⟨76, false⟩⟩,
  ⟨some 86, .p (.load false 1 (.t 85)), some ⟨76, false⟩⟩,
  ⟨some 87, .p (.bin 3 .eql (.t 81) (.t 86)), some ⟨76, false⟩⟩,
  ⟨some 88, .p (.mov (.t 87)), some ⟨76, false⟩⟩,
  ⟨some 89, .p (.mov (.t 0)), some ⟨88, true⟩⟩,
  ⟨some 90, .p (.mov (.t 6)), some ⟨88, true⟩⟩,
  ⟨some 91, .p (.idxA 22 (.t 89) (.t 90)), some ⟨88, true⟩⟩,
  ⟨some 92, .p (.fieldA 0 0 (.t 91)), some ⟨88, true⟩⟩,
  ⟨some 93, .p (.slA 20 1 (.t 92) none none), some ⟨88, true⟩⟩,
  ⟨some 94, .p (.b2s (.t 93)), some ⟨88, true⟩⟩,
  ⟨some 95, .p (.mov (.t 0)), some ⟨88, true⟩⟩,
  ⟨some 96, .p (.mov (.t 5)), some ⟨88, true⟩⟩,
  ⟨some 97, .p (.idxA 22 (.t 95) (.t 96)), some ⟨88, true⟩⟩,
  ⟨some 98, .p (.fieldA 0 0 (.t 97)), some ⟨88, true⟩⟩,
  ⟨some 99, .p (.slA 20 1 (.t 98) none none), some ⟨88, true⟩⟩,
  ⟨some 100, .p (.b2s (.t 99)), some ⟨88, true⟩⟩,
  ⟨some 101, .p (.bin 9 .gtr (.t 94) (.t 100)), some ⟨88, true⟩⟩,
  ⟨some 102, .p (.pick (.t 88) (.t 101) (.c (.bool false))), some ⟨76, false⟩⟩,
  ⟨some 103, .p (.pick (.t 76) (.c (.bool true)) (.t 102)), some ⟨60, true⟩⟩,
  po_ 104 (.pick (.t 60) (.t 103) (.c (.bool false)))] [0, 1, 5, 6, 104])
 (.cond (.t 104)
 (.ops [mv_ 105 6,
   mv_ 5 105] [0, 1, 5, 6])
 (.skip))
def SN : Af := .seq (.seq (.ops [po_ 8 (.mov (ci_ 0))] [0, 1, 5, 6, 7, 8])
 Tu)
 JU
def IJ : Af := .ops [mv_ 14 6,
  po_ 15 (.bin 3 .add (.t 14) (ci_ 1)),
  mv_ 6 15] [0, 1, 5, 6]
def Rh : Af := .seq (.block 1 (.seq (.ops [mv_ 16 1,
  mv_ 17 6,
  po_ 18 (.idxA 1 (.t 16) (.t 17)),
  po_ 19 (.load false 1 (.t 18)),
  mv_ 7 19] [0, 1, 5, 6, 7])
 SN))
 IJ
def Ql : Af := .seq (.seq (.ops [mv_ 10 6,
  mv_ 11 0,
  po_ 12 (.lenV (.t 11)),
  po_ 13 (.bin 3 .lss (.t 10) (.t 12))] [0, 1, 5, 6, 13])
 (.cond (.t 13)
 (.skip)
 (.exit 0)))
 Rh
def PT : Af := .block 0 (.loop [0, 1, 5, 6] Ql)
def IM : Af := .seq (.ops [mv_ 106 5,
  mv_ 4 106] [4])
 (.ret)
def PU : Af := .seq (.seq (.ops [po_ 6 (.mov (ci_ 0))] [0, 1, 5, 6])
 PT)
 IM
def Rt : Af := .seq (.ops [po_ 5 (.mov (.c (.int .i64 (-1))))] [0, 1, 5])
 PU
def Zu : Af := .seq (.ops [po_ 4 (.mov (ci_ 0))] [0, 1])
 Rt
def Uz : List VR := [.tmp 4]
theorem Ade : Tryd.f30.body.bind (trC Tryd.prog Tryd.f30.ntmps) = some (er Zu) := by kernel_rfl
theorem Ad1 : trR Tryd.prog Tryd.f30.results.toList = some Uz := by kernel_rfl
def Ez := Ac Tn.eq_1
def DK := Ac TA.eq_1
def NP := Ac Tm.eq_1
def NC := Ac SS.eq_1
def O1 := Ac Tf.eq_1
def DL := Ac Tq.eq_1
def OB := Ac Tu.eq_1
def YE := Ac JU.eq_1
def Oa := Ac SN.eq_1
def Xz := Ac IJ.eq_1
def J3 := Ac Rh.eq_1
def Ll := Ac Ql.eq_1
def Ye := Ac PT.eq_1
def XR := Ac IM.eq_1
def KF := Ac PU.eq_1
def Xi := Ac Rt.eq_1
def Abc := Ac Zu.eq_1
theorem AbF {K : TV → Prop} {e : Env} {H : List Ob} : res Uz e H K = res [.tmp 4] e H K := Aa rfl
def Eb := (And.intro (And.intro (And.intro (And.intro (And.intro @Ez @DK) (And.intro @NP @NC)) (And.intro (And.intro @O1 @DL) (And.intro @OB @YE))) (And.intro (And.intro (And.intro @Oa @Xz) (And.intro @J3 @Ll)) (And.intro (And.intro @Ye @XR) (And.intro @KF @Xi)))) (And.intro @Abc @AbF))
def AbZ := DN 107 Tryd.func30 Ade Ad1 rfl

def Hy : Af := .seq (.ops [mv_ 42 10,
  mv_ 43 11,
  mv_ 44 12,
  so_ 45 (.call 10 [.t 42, .t 43, .t 44]),
  mv_ 41 45,
  po_ 46 (.ext 0 (.t 41)),
  po_ 47 (.ext 1 (.t 41)),
  mv_ 13 46,
  mv_ 14 47] [8, 9, 13, 14])
 (.seq (.ops [mv_ 48 8,
  mv_ 49 13,
  so_ 50 (.call 11 [.t 48, .t 49]),
  mv_ 15 50] [9, 14, 15])
 (.seq (.ops [mv_ 51 15,
  mv_ 52 51,
  ⟨some 53, .p (.mov (.t 9)), some ⟨52, true⟩⟩,
  ⟨some 54, .s (.call 12 [.t 53]), some ⟨52, true⟩⟩,
  ⟨some 55, .p (.mov (.t 14)), some ⟨52, true⟩⟩,
  ⟨some 56, .p (.bin 3 .eql (.t 54) (.t 55)), some ⟨52, true⟩⟩,
  po_ 57 (.pick (.t 52) (.t 56) (.c (.bool false))),
  mv_ 6 57] [6])
 (.ret)))
def GR : Af := .seq (.ops [mv_ 39 2,
  so_ 40 (.call 9 [.t 39]),
  mv_ 12 40] [8, 9, 10, 11, 12])
 Hy
def G9 : Af := .seq (.ops [mv_ 37 1,
  so_ 38 (.call 9 [.t 37]),
  mv_ 11 38] [2, 8, 9, 10, 11])
 GR
def GU : Af := .seq (.ops [mv_ 35 0,
  so_ 36 (.call 8 [.t 35]),
  mv_ 10 36] [1, 2, 8, 9, 10])
 G9
def G5 : Af := .seq (.ops [mv_ 29 0,
  mv_ 30 1,
  mv_ 31 2,
  so_ 32 (.call 7 [.t 29, .t 30, .t 31]),
  mv_ 28 32,
  po_ 33 (.ext 0 (.t 28)),
  po_ 34 (.ext 1 (.t 28)),
  mv_ 8 33,
  mv_ 9 34] [0, 1, 2, 8, 9])
 GU
def GX : Af := .seq (.seq (.ops [mv_ 18 7,
  po_ 19 (.un .not (.t 18)),
  mv_ 20 19,
  ⟨some 21, .p (.mov (.t 1)), some ⟨20, false⟩⟩,
  ⟨some 22, .p (.lenV (.t 21)), some ⟨20, false⟩⟩,
  ⟨some 23, .p (.mov (.t 2)), some ⟨20, false⟩⟩,
  ⟨some 24, .p (.lenV (.t 23)), some ⟨20, false⟩⟩,
  ⟨some 25, .p (.bin 3 .add (.t 22) (.t 24)), some ⟨20, false⟩⟩,
  ⟨some 26, .p (.bin 3 .gtr (.t 25) (ci_ 40)), some ⟨20, false⟩⟩,
  po_ 27 (.pick (.t 20) (.c (.bool true)) (.t 26))] [0, 1, 2, 27])
 (.cond (.t 27)
 (.seq (.ops [po_ 6 (.mov (.c (.bool true)))] [6])
  (.ret))
 (.skip)))
 G5
def Ht : Af := .seq (.ops [mv_ 16 0,
  so_ 17 (.call 6 [.t 16]),
  mv_ 7 17] [0, 1, 2, 7])
 GX
def Jv : Af := .seq (.ops [po_ 6 (.mov (.c (.bool false)))] [0, 1, 2])
 Ht
def Jt : List VR := [.tmp 6]
theorem Vw : Tryd.f3.body.bind (trC Tryd.prog Tryd.f3.ntmps) = some (er Jv) := by kernel_rfl
theorem WJ : trR Tryd.prog Tryd.f3.results.toList = some Jt := by kernel_rfl
def MZ := Ac Hy.eq_1
def Nr := Ac GR.eq_1
def MJ := Ac G9.eq_1
def Nb := Ac GU.eq_1
def MO := Ac G5.eq_1
def MS := Ac GX.eq_1
def MF := Ac Ht.eq_1
def Su := Ac Jv.eq_1
theorem Sm {K : TV → Prop} {e : Env} {H : List Ob} : res Jt e H K = res [.tmp 6] e H K := Aa rfl
def Ap := (And.intro (And.intro (And.intro (And.intro @MZ @Nr) (And.intro @MJ @Nb)) (And.intro (And.intro @MO @MS) (And.intro @MF @Su))) @Sm)
def Uw := DN 58 Tryd.func3 Vw WJ rfl


end Go.Proofs.YtingoaihnlhiaaaDoor

