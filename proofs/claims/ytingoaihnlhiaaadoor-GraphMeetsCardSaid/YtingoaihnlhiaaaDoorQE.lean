/- What the proof of GraphMeetsCard stands on (texts merged; names shortened by a program): part 5. -/
import Derived.Test.YtingoaihnlhiaaaDoorQD
import Derived.Test.YtingoaihnlhiaaaDoorProg
import Derived.KernelRfl
import Derived.Shelf.SlSortCmp.NoneTotal
import Derived.Ground.SlsfProg
import Derived.WalkKit
import Derived.Deep.RegionWith
import Derived.Lib.BytesEntry
import Derived.Lib.Bytealg
import Derived.Shelf.Bytes.SlIndexAt
namespace Go.Proofs.YtingoaihnlhiaaaDoor
variable [Atj]
set_option linter.unusedSectionVars false
set_option linter.unusedVariables false
set_option linter.defProp false
set_option maxRecDepth 100000

def AD8 : AsQ := .seq (.block 1 (.seq (.ops [po_ 30 (.idxA 22 (.t 26) (.t 28)),
  po_ 31 (.load true 22 (.t 30)),
  so_ 6 (.alloc (.agg [.arr 20 1 [.val (.int .u8 ((0 : Nat) : Int)), .val (.int .u8 ((0 : Nat) : Int)), .val (.int .u8 ((0 : Nat) : Int)), .val (.int .u8 ((0 : Nat) : Int)), .val (.int .u8 ((0 : Nat) : Int)), .val (.int .u8 ((0 : Nat) : Int)), .val (.int .u8 ((0 : Nat) : Int)), .val (.int .u8 ((0 : Nat) : Int)), .val (.int .u8 ((0 : Nat) : Int)), .val (.int .u8 ((0 : Nat) : Int)), .val (.int .u8 ((0 : Nat) : Int)), .val (.int .u8 ((0 : Nat) : Int)), .val (.int .u8 ((0 : Nat) : Int)), .val (.int .u8 ((0 : Nat) : Int)), .val (.int .u8 ((0 : Nat) : Int)), .val (.int .u8 ((0 : Nat) : Int)), .val (.int .u8 ((0 : Nat) : Int)), .val (.int .u8 ((0 : Nat) : Int)), .val (.int .u8 ((0 : Nat) : Int)), .val (.int .u8 ((0 : Nat) : Int))], .val (.slice none 0 0), .val (.int .i64 ((0 : Nat) : Int))])),
  ⟨none, .s (.store 22 (.t 6) (.t 31)), none⟩] [0, 4, 6, 26, 27, 28])
 (.draw 6 [mv_ 32 4,
  po_ 33 (.nilc (.t 32)),
  po_ 34 (.fieldA 0 0 (.t 33)),
  po_ 35 (.load false 1 (.t 34)),
  po_ 36 (.fieldA 0 0 (.t 6)),
  po_ 37 (.load true 20 (.t 36)),
  po_ 38 (.load true 22 (.t 6)),
  ⟨none, .s (.mupd (.arr 20) (.t 35) (.t 37) (.t 38)), none⟩] [0, 4, 26, 27, 28])))
 (.ops [po_ 39 (.bin 3 .add (.t 28) (ci_ 1)),
  mv_ 28 39] [0, 4, 26, 27, 28])
def ADC : AsQ := .seq (.cond (.t 29)
 (.skip)
 (.exit 0))
 AD8
def ADg : AsQ := .seq (.ops [po_ 29 (.bin 3 .lss (.t 28) (.t 27))] [0, 4, 26, 27, 28, 29])
 ADC
def ADj : AsQ := .block 0 (.loop [0, 4, 26, 27, 28] ADg)
def AD6 : AsQ := .seq (.seq (.draw 9 [mv_ 69 4,
  po_ 70 (.nilc (.t 69)),
  po_ 71 (.fieldA 0 0 (.t 70)),
  po_ 72 (.load false 1 (.t 71)),
  po_ 73 (.load true 20 (.t 11)),
  po_ 74 (.gen (.look (.arr 20) (.agg [.arr 20 1 [.val (.int .u8 ((0 : Nat) : Int)), .val (.int .u8 ((0 : Nat) : Int)), .val (.int .u8 ((0 : Nat) : Int)), .val (.int .u8 ((0 : Nat) : Int)), .val (.int .u8 ((0 : Nat) : Int)), .val (.int .u8 ((0 : Nat) : Int)), .val (.int .u8 ((0 : Nat) : Int)), .val (.int .u8 ((0 : Nat) : Int)), .val (.int .u8 ((0 : Nat) : Int)), .val (.int .u8 ((0 : Nat) : Int)), .val (.int .u8 ((0 : Nat) : Int)), .val (.int .u8 ((0 : Nat) : Int)), .val (.int .u8 ((0 : Nat) : Int)), .val (.int .u8 ((0 : Nat) : Int)), .val (.int .u8 ((0 : Nat) : Int)), .val (.int .u8 ((0 : Nat) : Int)), .val (.int .u8 ((0 : Nat) : Int)), .val (.int .u8 ((0 : Nat) : Int)), .val (.int .u8 ((0 : Nat) : Int)), .val (.int .u8 ((0 : Nat) : Int))], .val (.slice none 0 0), .val (.int .i64 ((0 : Nat) : Int))]) true) [.t 72, .t 73]),
  mv_ 68 74,
  po_ 75 (.ext 0 (.t 68)),
  po_ 76 (.ext 1 (.t 68)),
  so_ 12 (.alloc (.agg [.arr 20 1 [.val (.int .u8 ((0 : Nat) : Int)), .val (.int .u8 ((0 : Nat) : Int)), .val (.int .u8 ((0 : Nat) : Int)), .val (.int .u8 ((0 : Nat) : Int)), .val (.int .u8 ((0 : Nat) : Int)), .val (.int .u8 ((0 : Nat) : Int)), .val (.int .u8 ((0 : Nat) : Int)), .val (.int .u8 ((0 : Nat) : Int)), .val (.int .u8 ((0 : Nat) : Int)), .val (.int .u8 ((0 : Nat) : Int)), .val (.int .u8 ((0 : Nat) : Int)), .val (.int .u8 ((0 : Nat) : Int)), .val (.int .u8 ((0 : Nat) : Int)), .val (.int .u8 ((0 : Nat) : Int)), .val (.int .u8 ((0 : Nat) : Int)), .val (.int .u8 ((0 : Nat) : Int)), .val (.int .u8 ((0 : Nat) : Int)), .val (.int .u8 ((0 : Nat) : Int)), .val (.int .u8 ((0 : Nat) : Int)), .val (.int .u8 ((0 : Nat) : Int))], .val (.slice none 0 0), .val (.int .i64 ((0 : Nat) : Int))])),
  ⟨none, .s (.store 22 (.t 12) (.t 75)), none⟩,
  mv_ 13 76] [0, 4, 7, 11, 13, 55, 56, 57, 62, 63, 64])
 (.seq (.ops [mv_ 77 13,
  po_ 78 (.un .not (.t 77))] [0, 4, 7, 11, 55, 56, 57, 62, 63, 64, 78])
 (.cond (.t 78)
 (.seq (.ops [po_ 79 (.iface 36 (ci_ 80)),
   po_ 2 (.mov (.c (.pointer none))),
   mv_ 3 79] [2, 3])
  (.ret))
 (.skip))))
 (.draw 4 [mv_ 80 7,
  po_ 81 (.load true 20 (.t 11)),
  po_ 82 (.gen (.look (.arr 20) (.val (.int .i64 ((0 : Nat) : Int))) false) [.t 80, .t 81]),
  po_ 83 (.bin 3 .add (.t 82) (ci_ 1)),
  so_ 84 (.ment (.arr 20) (.val (.int .i64 ((0 : Nat) : Int))) (.t 80) (.t 81)),
  po_ 85 (.ext 1 (.t 84)),
  ⟨none, .s (.mest (.t 80) (.t 85) (.t 83)), none⟩] [0, 4, 7, 55, 56, 57, 62, 63, 64])
def ADX : AsQ := .seq (.block 5 (.seq (.ops [po_ 66 (.idxA 20 (.t 62) (.t 64)),
  po_ 67 (.load true 20 (.t 66)),
  so_ 11 (.alloc (.arr 20 1 [.val (.int .u8 ((0 : Nat) : Int)), .val (.int .u8 ((0 : Nat) : Int)), .val (.int .u8 ((0 : Nat) : Int)), .val (.int .u8 ((0 : Nat) : Int)), .val (.int .u8 ((0 : Nat) : Int)), .val (.int .u8 ((0 : Nat) : Int)), .val (.int .u8 ((0 : Nat) : Int)), .val (.int .u8 ((0 : Nat) : Int)), .val (.int .u8 ((0 : Nat) : Int)), .val (.int .u8 ((0 : Nat) : Int)), .val (.int .u8 ((0 : Nat) : Int)), .val (.int .u8 ((0 : Nat) : Int)), .val (.int .u8 ((0 : Nat) : Int)), .val (.int .u8 ((0 : Nat) : Int)), .val (.int .u8 ((0 : Nat) : Int)), .val (.int .u8 ((0 : Nat) : Int)), .val (.int .u8 ((0 : Nat) : Int)), .val (.int .u8 ((0 : Nat) : Int)), .val (.int .u8 ((0 : Nat) : Int)), .val (.int .u8 ((0 : Nat) : Int))])),
  ⟨none, .s (.store 20 (.t 11) (.t 67)), none⟩] [0, 4, 7, 11, 55, 56, 57, 62, 63, 64])
 AD6))
 (.ops [po_ 86 (.bin 3 .add (.t 64) (ci_ 1)),
  mv_ 64 86] [0, 4, 7, 55, 56, 57, 62, 63, 64])
def AD2 : AsQ := .seq (.cond (.t 65)
 (.skip)
 (.exit 4))
 ADX
def AD5 : AsQ := .seq (.ops [po_ 65 (.bin 3 .lss (.t 64) (.t 63))] [0, 4, 7, 55, 56, 57, 62, 63, 64, 65])
 AD2
def AD7 : AsQ := .block 4 (.loop [0, 4, 7, 55, 56, 57, 62, 63, 64] AD5)
def ACu : AsQ := .seq (.ops [po_ 61 (.fieldA 1 20 (.t 9)),
  po_ 62 (.load false 1 (.t 61)),
  po_ 63 (.lenV (.t 62)),
  po_ 64 (.mov (ci_ 0))] [0, 4, 7, 55, 56, 57, 62, 63, 64])
 AD7
def ACA : AsQ := .ops [po_ 87 (.bin 3 .add (.t 57) (ci_ 1)),
  mv_ 57 87] [0, 4, 7, 55, 56, 57]
def ACG : AsQ := .seq (.block 3 (.seq (.ops [po_ 59 (.idxA 22 (.t 55) (.t 57)),
  po_ 60 (.load true 22 (.t 59)),
  so_ 9 (.alloc (.agg [.arr 20 1 [.val (.int .u8 ((0 : Nat) : Int)), .val (.int .u8 ((0 : Nat) : Int)), .val (.int .u8 ((0 : Nat) : Int)), .val (.int .u8 ((0 : Nat) : Int)), .val (.int .u8 ((0 : Nat) : Int)), .val (.int .u8 ((0 : Nat) : Int)), .val (.int .u8 ((0 : Nat) : Int)), .val (.int .u8 ((0 : Nat) : Int)), .val (.int .u8 ((0 : Nat) : Int)), .val (.int .u8 ((0 : Nat) : Int)), .val (.int .u8 ((0 : Nat) : Int)), .val (.int .u8 ((0 : Nat) : Int)), .val (.int .u8 ((0 : Nat) : Int)), .val (.int .u8 ((0 : Nat) : Int)), .val (.int .u8 ((0 : Nat) : Int)), .val (.int .u8 ((0 : Nat) : Int)), .val (.int .u8 ((0 : Nat) : Int)), .val (.int .u8 ((0 : Nat) : Int)), .val (.int .u8 ((0 : Nat) : Int)), .val (.int .u8 ((0 : Nat) : Int))], .val (.slice none 0 0), .val (.int .i64 ((0 : Nat) : Int))])),
  ⟨none, .s (.store 22 (.t 9) (.t 60)), none⟩] [0, 4, 7, 9, 55, 56, 57])
 ACu))
 ACA
def ACH : AsQ := .seq (.cond (.t 58)
 (.skip)
 (.exit 2))
 ACG
def ACt : AsQ := .seq (.ops [po_ 58 (.bin 3 .lss (.t 57) (.t 56))] [0, 4, 7, 55, 56, 57, 58])
 ACH
def ACj : AsQ := .block 2 (.loop [0, 4, 7, 55, 56, 57] ACt)
def AB6 : AsQ := .seq (.block 7 (.seq (.ops [po_ 92 (.idxA 22 (.t 88) (.t 90)),
  po_ 93 (.load true 22 (.t 92)),
  so_ 16 (.alloc (.agg [.arr 20 1 [.val (.int .u8 ((0 : Nat) : Int)), .val (.int .u8 ((0 : Nat) : Int)), .val (.int .u8 ((0 : Nat) : Int)), .val (.int .u8 ((0 : Nat) : Int)), .val (.int .u8 ((0 : Nat) : Int)), .val (.int .u8 ((0 : Nat) : Int)), .val (.int .u8 ((0 : Nat) : Int)), .val (.int .u8 ((0 : Nat) : Int)), .val (.int .u8 ((0 : Nat) : Int)), .val (.int .u8 ((0 : Nat) : Int)), .val (.int .u8 ((0 : Nat) : Int)), .val (.int .u8 ((0 : Nat) : Int)), .val (.int .u8 ((0 : Nat) : Int)), .val (.int .u8 ((0 : Nat) : Int)), .val (.int .u8 ((0 : Nat) : Int)), .val (.int .u8 ((0 : Nat) : Int)), .val (.int .u8 ((0 : Nat) : Int)), .val (.int .u8 ((0 : Nat) : Int)), .val (.int .u8 ((0 : Nat) : Int)), .val (.int .u8 ((0 : Nat) : Int))], .val (.slice none 0 0), .val (.int .i64 ((0 : Nat) : Int))])),
  ⟨none, .s (.store 22 (.t 16) (.t 93)), none⟩] [0, 4, 7, 14, 16, 88, 89, 90])
 (.seq (.ops [mv_ 94 7,
  po_ 95 (.fieldA 0 0 (.t 16)),
  po_ 96 (.load true 20 (.t 95)),
  po_ 97 (.gen (.look (.arr 20) (.val (.int .i64 ((0 : Nat) : Int))) false) [.t 94, .t 96]),
  po_ 98 (.bin 3 .eql (.t 97) (ci_ 0))] [0, 4, 7, 14, 16, 88, 89, 90, 98])
 (.cond (.t 98)
 (.ops [mv_ 99 14,
   po_ 100 (.fieldA 0 0 (.t 16)),
   po_ 101 (.load true 20 (.t 100)),
   ⟨some 102, .s (.bslice 20 1 (.arr 20 1 [.val (.int .u8 ((0 : Nat) : Int)), .val (.int .u8 ((0 : Nat) : Int)), .val (.int .u8 ((0 : Nat) : Int)), .val (.int .u8 ((0 : Nat) : Int)), .val (.int .u8 ((0 : Nat) : Int)), .val (.int .u8 ((0 : Nat) : Int)), .val (.int .u8 ((0 : Nat) : Int)), .val (.int .u8 ((0 : Nat) : Int)), .val (.int .u8 ((0 : Nat) : Int)), .val (.int .u8 ((0 : Nat) : Int)), .val (.int .u8 ((0 : Nat) : Int)), .val (.int .u8 ((0 : Nat) : Int)), .val (.int .u8 ((0 : Nat) : Int)), .val (.int .u8 ((0 : Nat) : Int)), .val (.int .u8 ((0 : Nat) : Int)), .val (.int .u8 ((0 : Nat) : Int)), .val (.int .u8 ((0 : Nat) : Int)), .val (.int .u8 ((0 : Nat) : Int)), .val (.int .u8 ((0 : Nat) : Int)), .val (.int .u8 ((0 : Nat) : Int))]) [⟨0, .t 101⟩]), none⟩,
   so_ 103 (.app 20 20 40 (.t 99) (.t 102)),
   mv_ 14 103] [0, 4, 7, 14, 88, 89, 90])
 (.skip)))))
 (.ops [po_ 104 (.bin 3 .add (.t 90) (ci_ 1)),
  mv_ 90 104] [0, 4, 7, 14, 88, 89, 90])
def ACh : AsQ := .seq (.cond (.t 91)
 (.skip)
 (.exit 6))
 AB6
def ACe : AsQ := .seq (.ops [po_ 91 (.bin 3 .lss (.t 90) (.t 89))] [0, 4, 7, 14, 88, 89, 90, 91])
 ACh
def ACf : AsQ := .block 6 (.own 14 20 (.loop [0, 4, 7, 14, 88, 89, 90] ACe))
def ACP : AsQ := .seq (.draw 4 [mv_ 127 7,
  po_ 128 (.load true 20 (.t 20)),
  po_ 129 (.gen (.look (.arr 20) (.val (.int .i64 ((0 : Nat) : Int))) false) [.t 127, .t 128]),
  po_ 130 (.bin 3 .sub (.t 129) (ci_ 1)),
  so_ 131 (.ment (.arr 20) (.val (.int .i64 ((0 : Nat) : Int))) (.t 127) (.t 128)),
  po_ 132 (.ext 1 (.t 131)),
  ⟨none, .s (.mest (.t 127) (.t 132) (.t 130)), none⟩] [0, 4, 7, 14, 17, 20, 121, 122, 123])
 (.seq (.ops [mv_ 133 7,
  po_ 134 (.load true 20 (.t 20)),
  po_ 135 (.gen (.look (.arr 20) (.val (.int .i64 ((0 : Nat) : Int))) false) [.t 133, .t 134]),
  po_ 136 (.bin 3 .eql (.t 135) (ci_ 0))] [0, 4, 7, 14, 17, 20, 121, 122, 123, 136])
 (.cond (.t 136)
 (.ops [mv_ 137 14,
   po_ 138 (.load true 20 (.t 20)),
   ⟨some 139, .s (.bslice 20 1 (.arr 20 1 [.val (.int .u8 ((0 : Nat) : Int)), .val (.int .u8 ((0 : Nat) : Int)), .val (.int .u8 ((0 : Nat) : Int)), .val (.int .u8 ((0 : Nat) : Int)), .val (.int .u8 ((0 : Nat) : Int)), .val (.int .u8 ((0 : Nat) : Int)), .val (.int .u8 ((0 : Nat) : Int)), .val (.int .u8 ((0 : Nat) : Int)), .val (.int .u8 ((0 : Nat) : Int)), .val (.int .u8 ((0 : Nat) : Int)), .val (.int .u8 ((0 : Nat) : Int)), .val (.int .u8 ((0 : Nat) : Int)), .val (.int .u8 ((0 : Nat) : Int)), .val (.int .u8 ((0 : Nat) : Int)), .val (.int .u8 ((0 : Nat) : Int)), .val (.int .u8 ((0 : Nat) : Int)), .val (.int .u8 ((0 : Nat) : Int)), .val (.int .u8 ((0 : Nat) : Int)), .val (.int .u8 ((0 : Nat) : Int)), .val (.int .u8 ((0 : Nat) : Int))]) [⟨0, .t 138⟩]), none⟩,
   so_ 140 (.app 20 20 40 (.t 137) (.t 139)),
   mv_ 14 140] [0, 4, 7, 14, 17, 121, 122, 123])
 (.skip)))
def ACN : AsQ := .seq (.block 11 (.seq (.ops [po_ 125 (.idxA 20 (.t 121) (.t 123)),
  po_ 126 (.load true 20 (.t 125)),
  so_ 20 (.alloc (.arr 20 1 [.val (.int .u8 ((0 : Nat) : Int)), .val (.int .u8 ((0 : Nat) : Int)), .val (.int .u8 ((0 : Nat) : Int)), .val (.int .u8 ((0 : Nat) : Int)), .val (.int .u8 ((0 : Nat) : Int)), .val (.int .u8 ((0 : Nat) : Int)), .val (.int .u8 ((0 : Nat) : Int)), .val (.int .u8 ((0 : Nat) : Int)), .val (.int .u8 ((0 : Nat) : Int)), .val (.int .u8 ((0 : Nat) : Int)), .val (.int .u8 ((0 : Nat) : Int)), .val (.int .u8 ((0 : Nat) : Int)), .val (.int .u8 ((0 : Nat) : Int)), .val (.int .u8 ((0 : Nat) : Int)), .val (.int .u8 ((0 : Nat) : Int)), .val (.int .u8 ((0 : Nat) : Int)), .val (.int .u8 ((0 : Nat) : Int)), .val (.int .u8 ((0 : Nat) : Int)), .val (.int .u8 ((0 : Nat) : Int)), .val (.int .u8 ((0 : Nat) : Int))])),
  ⟨none, .s (.store 20 (.t 20) (.t 126)), none⟩] [0, 4, 7, 14, 17, 20, 121, 122, 123])
 ACP))
 (.ops [po_ 141 (.bin 3 .add (.t 123) (ci_ 1)),
  mv_ 123 141] [0, 4, 7, 14, 17, 121, 122, 123])
def ACQ : AsQ := .seq (.cond (.t 124)
 (.skip)
 (.exit 10))
 ACN
def ACp : AsQ := .seq (.ops [po_ 124 (.bin 3 .lss (.t 123) (.t 122))] [0, 4, 7, 14, 17, 121, 122, 123, 124])
 ACQ
def ACz : AsQ := .block 10 (.own 14 20 (.loop [0, 4, 7, 14, 17, 121, 122, 123] ACp))
def AB7 : AsQ := .seq (.ops [po_ 120 (.fieldA 1 20 (.t 18)),
  po_ 121 (.load false 1 (.t 120)),
  po_ 122 (.lenV (.t 121)),
  po_ 123 (.mov (ci_ 0))] [0, 4, 7, 14, 17, 121, 122, 123])
 ACz
def ACD : AsQ := .seq (.ops [mv_ 118 14,
  po_ 119 (.slV 20 (.t 118) (some (ci_ 1)) none),
  mv_ 14 119] [0, 4, 7, 14, 17, 18])
 AB7
def ACO : AsQ := .ops [mv_ 108 17,
  po_ 109 (.bin 3 .add (.t 108) (ci_ 1)),
  mv_ 17 109] [0, 4, 7, 14, 17]
def ACm : AsQ := .seq (.block 9 (.seq (.draw 4 [mv_ 110 4,
  po_ 111 (.nilc (.t 110)),
  po_ 112 (.fieldA 0 0 (.t 111)),
  po_ 113 (.load false 1 (.t 112)),
  mv_ 114 14,
  po_ 115 (.idxA 20 (.t 114) (ci_ 0)),
  po_ 116 (.load true 20 (.t 115)),
  po_ 117 (.gen (.look (.arr 20) (.agg [.arr 20 1 [.val (.int .u8 ((0 : Nat) : Int)), .val (.int .u8 ((0 : Nat) : Int)), .val (.int .u8 ((0 : Nat) : Int)), .val (.int .u8 ((0 : Nat) : Int)), .val (.int .u8 ((0 : Nat) : Int)), .val (.int .u8 ((0 : Nat) : Int)), .val (.int .u8 ((0 : Nat) : Int)), .val (.int .u8 ((0 : Nat) : Int)), .val (.int .u8 ((0 : Nat) : Int)), .val (.int .u8 ((0 : Nat) : Int)), .val (.int .u8 ((0 : Nat) : Int)), .val (.int .u8 ((0 : Nat) : Int)), .val (.int .u8 ((0 : Nat) : Int)), .val (.int .u8 ((0 : Nat) : Int)), .val (.int .u8 ((0 : Nat) : Int)), .val (.int .u8 ((0 : Nat) : Int)), .val (.int .u8 ((0 : Nat) : Int)), .val (.int .u8 ((0 : Nat) : Int)), .val (.int .u8 ((0 : Nat) : Int)), .val (.int .u8 ((0 : Nat) : Int))], .val (.slice none 0 0), .val (.int .i64 ((0 : Nat) : Int))]) false) [.t 113, .t 116]),
  so_ 18 (.alloc (.agg [.arr 20 1 [.val (.int .u8 ((0 : Nat) : Int)), .val (.int .u8 ((0 : Nat) : Int)), .val (.int .u8 ((0 : Nat) : Int)), .val (.int .u8 ((0 : Nat) : Int)), .val (.int .u8 ((0 : Nat) : Int)), .val (.int .u8 ((0 : Nat) : Int)), .val (.int .u8 ((0 : Nat) : Int)), .val (.int .u8 ((0 : Nat) : Int)), .val (.int .u8 ((0 : Nat) : Int)), .val (.int .u8 ((0 : Nat) : Int)), .val (.int .u8 ((0 : Nat) : Int)), .val (.int .u8 ((0 : Nat) : Int)), .val (.int .u8 ((0 : Nat) : Int)), .val (.int .u8 ((0 : Nat) : Int)), .val (.int .u8 ((0 : Nat) : Int)), .val (.int .u8 ((0 : Nat) : Int)), .val (.int .u8 ((0 : Nat) : Int)), .val (.int .u8 ((0 : Nat) : Int)), .val (.int .u8 ((0 : Nat) : Int)), .val (.int .u8 ((0 : Nat) : Int))], .val (.slice none 0 0), .val (.int .i64 ((0 : Nat) : Int))])),
  ⟨none, .s (.store 22 (.t 18) (.t 117)), none⟩] [0, 4, 7, 14, 17, 18])
 ACD))
 ACO
def ACy : AsQ := .seq (.seq (.ops [mv_ 105 14,
  po_ 106 (.lenV (.t 105)),
  po_ 107 (.bin 3 .gtr (.t 106) (ci_ 0))] [0, 4, 7, 14, 17, 107])
 (.cond (.t 107)
 (.skip)
 (.exit 8)))
 ACm
def ACM : AsQ := .seq (.seq (.ops [mv_ 142 17,
  mv_ 143 0,
  po_ 144 (.lenV (.t 143)),
  po_ 145 (.bin 3 .lss (.t 142) (.t 144))] [4, 145])
 (.cond (.t 145)
 (.seq (.ops [po_ 146 (.iface 36 (ci_ 80)),
   po_ 2 (.mov (.c (.pointer none))),
   mv_ 3 146] [2, 3])
  (.ret))
 (.skip)))
 (.seq (.ops [mv_ 147 4,
  mv_ 2 147,
  po_ 3 (.mov (.c .nilIface))] [2, 3])
 (.ret))
def ACd : AsQ := .seq (.block 8 (.own 14 20 (.loop [0, 4, 7, 14, 17] ACy)))
 ACM
def ACa : AsQ := .seq (.ops [po_ 17 (.mov (ci_ 0))] [0, 4, 7, 14, 17])
 ACd
def AB9 : AsQ := .seq (.seq (.ops [mv_ 88 0,
  po_ 89 (.lenV (.t 88)),
  po_ 90 (.mov (ci_ 0))] [0, 4, 7, 14, 88, 89, 90])
 ACf)
 ACa
def ACT : AsQ := .seq (.ops [po_ 14 (.mov (.c (.slice none 0 0)))] [0, 4, 7, 14])
 AB9
def ACr : AsQ := .seq (.seq (.ops [mv_ 55 0,
  po_ 56 (.lenV (.t 55)),
  po_ 57 (.mov (ci_ 0))] [0, 4, 7, 55, 56, 57])
 ACj)
 ACT
def ACq : AsQ := .seq (.ops [so_ 54 (.mkm (.arr 20) none),
  mv_ 7 54] [0, 4, 7])
 ACr
def ACK : AsQ := .seq (.seq (.ops [mv_ 40 0,
  po_ 41 (.lenV (.t 40)),
  po_ 42 (.bin 3 .gtr (.t 41) (ci_ 2000)),
  mv_ 43 42,
  ⟨some 44, .p (.mov (.t 4)), some ⟨43, false⟩⟩,
  ⟨some 45, .p (.nilc (.t 44)), some ⟨43, false⟩⟩,
  ⟨some 46, .p (.fieldA 0 0 (.t 45)), some ⟨43, false⟩⟩,
  ⟨some 47, .p (.load false 1 (.t 46)), some ⟨43, false⟩⟩,
  ⟨some 48, .p (.gen .lenM [.t 47]), some ⟨43, false⟩⟩,
  ⟨some 49, .p (.mov (.t 0)), some ⟨43, false⟩⟩,
  ⟨some 50, .p (.lenV (.t 49)), some ⟨43, false⟩⟩,
  ⟨some 51, .p (.bin 3 .lss (.t 48) (.t 50)), some ⟨43, false⟩⟩,
  po_ 52 (.pick (.t 43) (.c (.bool true)) (.t 51))] [0, 4, 52])
 (.cond (.t 52)
 (.seq (.ops [po_ 53 (.iface 36 (ci_ 80)),
   po_ 2 (.mov (.c (.pointer none))),
   mv_ 3 53] [2, 3])
  (.ret))
 (.skip)))
 ACq
def ACn : AsQ := .seq (.seq (.ops [mv_ 26 0,
  po_ 27 (.lenV (.t 26)),
  po_ 28 (.mov (ci_ 0))] [0, 4, 26, 27, 28])
 ADj)
 ACK
def AB8 : AsQ := .seq (.ops [mv_ 21 0,
  po_ 22 (.lenV (.t 21)),
  so_ 23 (.mkm (.arr 20) (some (.t 22))),
  ⟨some 24, .p (.build [.val (.map none), .val (.map none)] [1, 1] [⟨0, .t 23⟩]), none⟩,
  so_ 25 (.box (.t 24)),
  mv_ 4 25] [0, 4])
 ACn
def AHV : AsQ := .seq (.ops [po_ 2 (.mov (.c (.pointer none))),
  po_ 3 (.mov (.c .nilIface))] [0])
 AB8
def AHX : List VR := [.tmp 2, .tmp 3]
theorem ALd : Tryd.f35.body.bind (trC Tryd.prog Tryd.f35.ntmps) = some (er AHV) := by kernel_rfl
theorem ALI : trR Tryd.prog Tryd.f35.results.toList = some AHX := by kernel_rfl
def AHL := AsN AD8.eq_1
def AG6 := AsN ADC.eq_1
def AHJ := AsN ADg.eq_1
def AHq := AsN ADj.eq_1
def AG7 := AsN AD6.eq_1
def AHO := AsN ADX.eq_1
def AHr := AsN AD2.eq_1
def AHK := AsN AD5.eq_1
def AHv := AsN AD7.eq_1
def AGH := AsN ACu.eq_1
def AFS := AsN ACA.eq_1
def AFX := AsN ACG.eq_1
def AGu := AsN ACH.eq_1
def AGx := AsN ACt.eq_1
def AFO := AsN ACj.eq_1
def AFM := AsN AB6.eq_1
def AFR := AsN ACh.eq_1
def AGM := AsN ACe.eq_1
def AGq := AsN ACf.eq_1
def AFL := AsN ACP.eq_1
def AFJ := AsN ACN.eq_1
def AFP := AsN ACQ.eq_1
def AGf := AsN ACp.eq_1
def AGN := AsN ACz.eq_1
def AGk := AsN AB7.eq_1
def AFY := AsN ACD.eq_1
def AGR := AsN ACO.eq_1
def AGa := AsN ACm.eq_1
def AGo := AsN ACy.eq_1
def AFU := AsN ACM.eq_1
def AG2 := AsN ACd.eq_1
def AFN := AsN ACa.eq_1
def AGF := AsN AB9.eq_1
def AGW := AsN ACT.eq_1
def AF6 := AsN ACr.eq_1
def AGG := AsN ACq.eq_1
def AGn := AsN ACK.eq_1
def AF2 := AsN ACn.eq_1
def AGd := AsN AB8.eq_1
def AJh := AsN AHV.eq_1
theorem AJx {K : TV → Prop} {e : Env} {H : List Ob} : res AHX e H K = res [.tmp 2, .tmp 3] e H K := AsM rfl
def Atd := (And.intro (And.intro (And.intro (And.intro (And.intro (And.intro @AHL @AG6) (And.intro @AHJ @AHq)) (And.intro (And.intro @AG7 @AHO) (And.intro @AHr @AHK))) (And.intro (And.intro (And.intro @AHv @AGH) (And.intro @AFS @AFX)) (And.intro (And.intro @AGu @AGx) (And.intro @AFO @AFM)))) (And.intro (And.intro (And.intro (And.intro @AFR @AGM) (And.intro @AGq @AFL)) (And.intro (And.intro @AFJ @AFP) (And.intro @AGf @AGN))) (And.intro (And.intro (And.intro @AGk @AFY) (And.intro @AGR @AGa)) (And.intro (And.intro @AGo @AFU) (And.intro @AG2 @AFN))))) (And.intro (And.intro (And.intro (And.intro @AGF @AGW) (And.intro @AF6 @AGG)) (And.intro (And.intro @AGn @AF2) (And.intro @AGd @AJh))) @AJx))
def AKo := AvA 148 Tryd.func35 ALd ALI rfl




def AGE : AsQ := .seq (.seq (.ops [mv_ 7 3,
  mv_ 8 0,
  po_ 9 (.lenV (.t 8)),
  po_ 10 (.bin 3 .lss (.t 7) (.t 9))] [0, 3, 10])
 (.cond (.t 10)
 (.skip)
 (.exit 0)))
 (.seq (.block 1 (.seq (.ops [mv_ 13 0,
  mv_ 14 3,
  po_ 15 (.idxA 22 (.t 13) (.t 14)),
  po_ 16 (.fieldA 1 20 (.t 15)),
  po_ 17 (.load false 1 (.t 16)),
  po_ 18 (.lenV (.t 17)),
  po_ 19 (.bin 3 .gtr (.t 18) (ci_ 40))] [0, 3, 19])
 (.cond (.t 19)
 (.seq (.ops [po_ 2 (.mov (.c (.bool false)))] [2])
  (.ret))
 (.skip))))
 (.ops [mv_ 11 3,
  po_ 12 (.bin 3 .add (.t 11) (ci_ 1)),
  mv_ 3 12] [0, 3]))
def AGj : AsQ := .block 0 (.loop [0, 3] AGE)
def AFI : AsQ := .seq (.ops [po_ 2 (.mov (.c (.bool true)))] [2])
 (.ret)
def AFQ : AsQ := .seq (.seq (.ops [po_ 3 (.mov (ci_ 0))] [0, 3])
 AGj)
 AFI
def AGK : AsQ := .seq (.seq (.ops [mv_ 4 0,
  po_ 5 (.lenV (.t 4)),
  po_ 6 (.bin 3 .gtr (.t 5) (ci_ 40))] [0, 6])
 (.cond (.t 6)
 (.seq (.ops [po_ 2 (.mov (.c (.bool false)))] [2])
  (.ret))
 (.skip)))
 AFQ
def AJT : AsQ := .seq (.ops [po_ 2 (.mov (.c (.bool false)))] [0])
 AGK
def AJW : List VR := [.tmp 2]
theorem ANQ : Tryd.f6.body.bind (trC Tryd.prog Tryd.f6.ntmps) = some (er AJT) := by kernel_rfl
theorem ANN : trR Tryd.prog Tryd.f6.results.toList = some AJW := by kernel_rfl
def AIG := AsN AGE.eq_1
def AI3 := AsN AGj.eq_1
def AIK := AsN AFI.eq_1
def AIO := AsN AFQ.eq_1
def AIC := AsN AGK.eq_1
def ALj := AsN AJT.eq_1
theorem AKS {K : TV → Prop} {e : Env} {H : List Ob} : res AJW e H K = res [.tmp 2] e H K := AsM rfl
def AAI := (And.intro (And.intro (And.intro @AIG @AI3) (And.intro @AIK @AIO)) (And.intro (And.intro @AIC @ALj) @AKS))
def AL4 := AvA 20 Tryd.func6 ANQ ANN rfl


def ADh : AsQ := .seq (.seq (.ops [mv_ 5 4,
  mv_ 6 0,
  po_ 7 (.lenV (.t 6)),
  po_ 8 (.bin 3 .lss (.t 5) (.t 7))] [0, 3, 4, 8])
 (.cond (.t 8)
 (.skip)
 (.exit 0)))
 (.seq (.block 1 (.ops [mv_ 11 3,
  mv_ 12 0,
  mv_ 13 4,
  po_ 14 (.idxA 20 (.t 12) (.t 13)),
  po_ 15 (.load true 20 (.t 14)),
  ⟨some 16, .s (.bslice 20 1 (.arr 20 1 [.val (.int .u8 ((0 : Nat) : Int)), .val (.int .u8 ((0 : Nat) : Int)), .val (.int .u8 ((0 : Nat) : Int)), .val (.int .u8 ((0 : Nat) : Int)), .val (.int .u8 ((0 : Nat) : Int)), .val (.int .u8 ((0 : Nat) : Int)), .val (.int .u8 ((0 : Nat) : Int)), .val (.int .u8 ((0 : Nat) : Int)), .val (.int .u8 ((0 : Nat) : Int)), .val (.int .u8 ((0 : Nat) : Int)), .val (.int .u8 ((0 : Nat) : Int)), .val (.int .u8 ((0 : Nat) : Int)), .val (.int .u8 ((0 : Nat) : Int)), .val (.int .u8 ((0 : Nat) : Int)), .val (.int .u8 ((0 : Nat) : Int)), .val (.int .u8 ((0 : Nat) : Int)), .val (.int .u8 ((0 : Nat) : Int)), .val (.int .u8 ((0 : Nat) : Int)), .val (.int .u8 ((0 : Nat) : Int)), .val (.int .u8 ((0 : Nat) : Int))]) [⟨0, .t 15⟩]), none⟩,
  so_ 17 (.app 20 20 39 (.t 11) (.t 16)),
  mv_ 3 17] [0, 3, 4]))
 (.ops [mv_ 9 4,
  po_ 10 (.bin 3 .add (.t 9) (ci_ 1)),
  mv_ 4 10] [0, 3, 4]))
def ADN : AsQ := .block 0 (.own 3 20 (.loop [0, 3, 4] ADh))
def ADq : AsQ := .seq (.ops [mv_ 18 3,
  mv_ 2 18] [2])
 (.ret)
def ADr : AsQ := .seq (.seq (.ops [po_ 4 (.mov (ci_ 0))] [0, 3, 4])
 ADN)
 ADq
def ADd : AsQ := .seq (.ops [po_ 3 (.mov (.c (.slice none 0 0)))] [0, 3])
 ADr
def AH6 : AsQ := .seq (.ops [po_ 2 (.mov (.c (.slice none 0 0)))] [0])
 ADd
def AH3 : List VR := [.tmp 2]
theorem ALQ : Tryd.f9.body.bind (trC Tryd.prog Tryd.f9.ntmps) = some (er AH6) := by kernel_rfl
theorem AK5 : trR Tryd.prog Tryd.f9.results.toList = some AH3 := by kernel_rfl
def AHt := AsN ADh.eq_1
def AHR := AsN ADN.eq_1
def AHa := AsN ADq.eq_1
def AHo := AsN ADr.eq_1
def AG8 := AsN ADd.eq_1
def AJg := AsN AH6.eq_1
theorem AJo {K : TV → Prop} {e : Env} {H : List Ob} : res AH3 e H K = res [.tmp 2] e H K := AsM rfl
def Aym := (And.intro (And.intro (And.intro @AHt @AHR) (And.intro @AHa @AHo)) (And.intro (And.intro @AG8 @AJg) @AJo))
def AGb := AvA 19 Tryd.func9 ALQ AK5 rfl

end Go.Proofs.YtingoaihnlhiaaaDoor


namespace Go.Proofs.YtingoaihnlhiaaaDoor
open Go.RowKit
variable [Atj]
set_option linter.unusedSectionVars false
set_option linter.unusedVariables false
set_option linter.unusedSimpArgs false

/-- A node: its id, its parents, its time. -/
structure Nd where
 id : List UInt8
 ps : List (List UInt8)
 tm : Int
def idT (l : List UInt8) : TV := .arr 20 1 (l.map by8)
theorem As9 {l : List UInt8} : idT l = .arr 20 1 (l.map by8) := by unfold idT; rfl
def ndT (n : Nd) : TV := .agg [idT n.id, .sl 20 (n.ps.map idT), i64 n.tm]
theorem Atl {n : Nd} : ndT n = .agg [.arr 20 1 (n.id.map by8), .sl 20 (n.ps.map idT), i64 n.tm] := by unfold ndT; rw [As9]
theorem Atm {l : List UInt8} : As6 (idT l) = 20 := by rw [As9]; rfl
/-- Where it lies; -1: nowhere. -/
def fnd (l : List Nd) (x : List UInt8) : Int := if ∃ n ∈ l, n.id = x then ((l.findIdx fun n => n.id == x : Nat) : Int) else -1
theorem AZb {l : List Nd} {x : List UInt8} {i : Nat} (hi : i < l.length) (h0 : ∀ k (hk : k < i), l[k].id ≠ x) (h : l[i].id = x) : fnd l x = i := by
 unfold fnd
 rw [if_pos ⟨l[i], List.getElem_mem hi, h⟩]
 congr 1
 rw [List.findIdx_eq hi]
 exact ⟨by simpa using h, fun k hk => by simpa using h0 k hk⟩
end Go.Proofs.YtingoaihnlhiaaaDoor


namespace Go.Proofs.YtingoaihnlhiaaaDoor
open Go.RowKit
variable [Atj]
set_option linter.unusedSectionVars false
set_option linter.unusedVariables false
set_option linter.unusedSimpArgs false

theorem ABJ {a b : TV} : (List.replicate 1 a).set 0 b = [b] := by simp
theorem Azz {b : TV} : [b].take 1 = [b] := by simp
theorem AvF {α : Type} {f : α → TV} {l : List α} {n : Nat} (h : n = l.length) : (l.map f).take n = l.map f := by rw [List.take_of_length_le (by simp [h])]
theorem AIP {l : List (List UInt8)} {x : List UInt8} : l.map idT ++ [TV.arr 20 1 (x.map by8)] = (l ++ [x]).map idT := by simp [idT]
theorem Ay6 {l : List UInt8} : lays (idT l) = true := by rw [As9]; rfl
theorem AuY {l : List UInt8} : Avu (idT l) = true := by rw [As9]; rfl
theorem AKY {l : List (List UInt8)} {x : List UInt8} : l.map idT ++ [idT x] = (l ++ [x]).map idT := by simp
theorem At7 {l : List UInt8} : AHm (idT l) = true := by rw [As9]; rfl
/-- few: no more than anything is claimed of? -/
def ARq (l : List Nd) : Bool := decide (l.length ≤ 40) && l.all fun n => decide (n.ps.length ≤ 40)
theorem A5l (l : List Nd) : Awi Tryd.prog 6 [.sl 22 (l.map ndT)] (fun r => r = tb (ARq l)) := by
 refine AsZ.toPureV (AL4 (by simp) ?_)
 by_cases hl : 40 < l.length
 ·have : ARq l = false := by unfold ARq; simp; omega
  rw [this]
  simp -dsimp (disch := first | assumption | omega) only [↓AsU, AsP, AsT, AsR, eq_self, forall_const, Nat.reduceLT, Nat.reduceEqDiff, Nat.reduceSub, Nat.reduceMul, Nat.reduceMod, Nat.reduceDiv, Nat.reducePow, UInt8.reduceToNat, Int.reduceEq, Int.reduceLT, Int.reduceLE, ↓reduceIte, Nat.reduceAdd, Int.reduceToNat, reduceCtorEq, Nat.reduceLeDiff, ↓AAI]
 ·simp -dsimp (disch := first | assumption | omega) only [↓AsU, AsP, AsT, AsR, eq_self, forall_const, Nat.reduceLT, Nat.reduceEqDiff, Nat.reduceSub, Nat.reduceMul, Nat.reduceMod, Nat.reduceDiv, Nat.reducePow, UInt8.reduceToNat, Int.reduceEq, Int.reduceLT, Int.reduceLE, ↓reduceIte, Nat.reduceAdd, Int.reduceToNat, reduceCtorEq, Nat.reduceLeDiff, ↓AAI]
  refine AtO (fun m e H => ∃ i : Nat, m = l.length - i ∧ i ≤ l.length ∧ (∀ n ∈ l.take i, n.ps.length ≤ 40) ∧ e = [(0, .sl 22 (l.map ndT)), (3, i64 (i : Int))] ∧ H = []) l.length ?_ ?_
  ·exact ⟨0, by simp, by simp, by simp, rfl, rfl⟩
  ·rintro m e H ⟨i, rfl, hi, h0, rfl, rfl⟩
   by_cases h : i < l.length
   ·have hg : l[i]? = some l[i] := List.getElem?_eq_getElem h
    by_cases hp : 40 < l[i].ps.length
    ·have : ARq l = false := by
      unfold ARq
      rw [Bool.and_eq_false_iff]; right
      rw [List.all_eq_false]
      exact ⟨l[i], List.getElem_mem h, by simpa using hp⟩
     rw [this]
     simp -dsimp (disch := first | assumption | omega) only [↓AsU, AsP, AsT, AsR, eq_self, forall_const, Nat.reduceLT, Nat.reduceEqDiff, Nat.reduceSub, Nat.reduceMul, Nat.reduceMod, Nat.reduceDiv, Nat.reducePow, UInt8.reduceToNat, Int.reduceEq, Int.reduceLT, Int.reduceLE, ↓reduceIte, Nat.reduceAdd, Int.reduceToNat, reduceCtorEq, Nat.reduceLeDiff, ↓AAI, hg, Atl]
    ·simp -dsimp (disch := first | assumption | omega) only [↓AsU, AsP, AsT, AsR, eq_self, forall_const, Nat.reduceLT, Nat.reduceEqDiff, Nat.reduceSub, Nat.reduceMul, Nat.reduceMod, Nat.reduceDiv, Nat.reducePow, UInt8.reduceToNat, Int.reduceEq, Int.reduceLT, Int.reduceLE, ↓reduceIte, Nat.reduceAdd, Int.reduceToNat, reduceCtorEq, Nat.reduceLeDiff, ↓AAI, hg, Atl]
     refine Ate (l.length - (i + 1)) (by omega) (by simp) ⟨i + 1, rfl, by omega, fun n hn => ?_, rfl, rfl⟩
     rw [List.take_succ_eq_append_getElem h, List.mem_append, List.mem_singleton] at hn
     rcases hn with hn | rfl
     ·exact h0 n hn
     ·omega
   ·have hi2 : i = l.length := by omega
    rw [hi2, List.take_length] at h0
    have : ARq l = true := by
     unfold ARq
     rw [Bool.and_eq_true, List.all_eq_true]
     exact ⟨by simp; omega, fun n hn => by simpa using h0 n hn⟩
    rw [this]
    simp -dsimp (disch := first | assumption | omega) only [↓AsU, AsP, AsT, AsR, eq_self, forall_const, Nat.reduceLT, Nat.reduceEqDiff, Nat.reduceSub, Nat.reduceMul, Nat.reduceMod, Nat.reduceDiv, Nat.reducePow, UInt8.reduceToNat, Int.reduceEq, Int.reduceLT, Int.reduceLE, ↓reduceIte, Nat.reduceAdd, Int.reduceToNat, reduceCtorEq, Nat.reduceLeDiff, ↓AAI]
theorem AZk (l : List (List UInt8)) (hl : l.length ≤ 1000) : Awi Tryd.prog 9 [.sl 20 (l.map idT)] (fun r => r = .sl 20 (l.map idT)) := by
 refine AsZ.toPureV (AGb (by simp) ?_)
 simp -dsimp (disch := first | assumption | omega) only [↓AsU, AsP, AsT, AsR, eq_self, forall_const, Nat.reduceLT, Nat.reduceEqDiff, Nat.reduceSub, Nat.reduceMul, Nat.reduceMod, Nat.reduceDiv, Nat.reducePow, UInt8.reduceToNat, Int.reduceEq, Int.reduceLT, Int.reduceLE, ↓reduceIte, Nat.reduceAdd, Int.reduceToNat, reduceCtorEq, Nat.reduceLeDiff, ↓Aym]
 refine AtO (fun m e H => ∃ i v : Nat, m = l.length - i ∧ i ≤ l.length ∧ e = [(0, .sl 20 (l.map idT)), (3, .os 20 0 v [] 0 i i), (4, i64 (i : Int))] ∧ H = [.obj v (.arr i 20 ((l.take i).map idT))]) l.length ?_ ?_
 ·exact ⟨0, 0, by simp, by simp, rfl, by simp⟩
 ·rintro m e H ⟨i, v, rfl, hi, rfl, rfl⟩
  by_cases h : i < l.length
  ·have hg : l[i]? = some l[i] := List.getElem?_eq_getElem h
   have hti : (l.take i).length = i := by simp; omega
   have htk : ((l.take i).map idT).take i = (l.take i).map idT := AvF hti.symm
   generalize hr : l.take i = r at *
   simp -dsimp (disch := first | assumption | omega) only [↓AsU, AsP, AsT, AsR, eq_self, forall_const, Nat.reduceLT, Nat.reduceEqDiff, Nat.reduceSub, Nat.reduceMul, Nat.reduceMod, Nat.reduceDiv, Nat.reducePow, UInt8.reduceToNat, Int.reduceEq, Int.reduceLT, Int.reduceLE, ↓reduceIte, Nat.reduceAdd, Int.reduceToNat, reduceCtorEq, Nat.reduceLeDiff, ↓Aym, hg, At7, Atm, ABJ, Azz, htk, hti, Ay6, AuY, AKY]
   refine ABL (l.length - (i + 1)) 1 (by omega) (by omega) rfl rfl ⟨i + 1, v + 1, rfl, by omega, rfl, ?_⟩
   rw [List.take_succ_eq_append_getElem h, hr]; rfl
  ·have hi2 : i = l.length := by omega
   subst hi2
   rw [List.take_length]
   have htk : (l.map idT).take l.length = l.map idT := AvF rfl
   simp -dsimp (disch := first | assumption | omega) only [↓AsU, AsP, AsT, AsR, eq_self, forall_const, Nat.reduceLT, Nat.reduceEqDiff, Nat.reduceSub, Nat.reduceMul, Nat.reduceMod, Nat.reduceDiv, Nat.reducePow, UInt8.reduceToNat, Int.reduceEq, Int.reduceLT, Int.reduceLE, ↓reduceIte, Nat.reduceAdd, Int.reduceToNat, reduceCtorEq, Nat.reduceLeDiff, ↓Aym, htk]
end Go.Proofs.YtingoaihnlhiaaaDoor


namespace Go.Proofs.YtingoaihnlhiaaaDoor
open Go.RowKit
variable [Atj]
set_option linter.unusedSectionVars false
set_option linter.unusedVariables false
set_option autoImplicit false

def As7 (l : List Nd) : List (List UInt8) := l.map (·.id)
/-- The parents of an id. -/
def pOf (l : List Nd) (x : List UInt8) : List (List UInt8) := ((l.find? fun n => n.id == x).map (·.ps)).getD []
/-- What some reach. -/
inductive Rc (l : List Nd) (S : List (List UInt8)) : List UInt8 → Prop
 | base {x : List UInt8} : x ∈ S → Rc l S x
 | step {x y : List UInt8} : Rc l S x → y ∈ pOf l x → Rc l S y
/-- Ids differ, and parents are there. -/
structure APa (l : List Nd) : Prop where
 nodup : (As7 l).Nodup
 there : ∀ n ∈ l, ∀ p ∈ n.ps, p ∈ As7 l
def Cyc (l : List Nd) : Prop := ∃ n ∈ l, Rc l n.ps n.id
def GOk (l : List Nd) : Prop := APa l ∧ ¬ Cyc l

theorem AEU {l : List Nd} {n : Nd} (h : n ∈ l) : n.id ∈ As7 l := List.mem_map.2 ⟨n, h, rfl⟩
theorem AGV {l : List Nd} (hn : (As7 l).Nodup) {n : Nd} (h : n ∈ l) : pOf l n.id = n.ps := by
 unfold pOf
 have : l.find? (fun m => m.id == n.id) = some n := by
  induction l with
  | nil => simp at h
  | cons a l ih =>
   rw [As7, List.map_cons, List.nodup_cons] at hn
   rw [List.find?_cons]
   rcases List.mem_cons.1 h with rfl | h
   ·simp
   ·have hne : a.id ≠ n.id := fun e => hn.1 (e ▸ List.mem_map.2 ⟨n, h, rfl⟩)
    have : (a.id == n.id) = false := by simpa using hne
    rw [this]
    exact ih hn.2 h
 rw [this]; rfl
theorem AKA {l : List Nd} {x y : List UInt8} (h : y ∈ pOf l x) : ∃ n ∈ l, n.id = x ∧ y ∈ n.ps := by
 unfold pOf at h
 cases hf : l.find? (fun m => m.id == x) with
 | none => rw [hf] at h; simp at h
 | some n =>
  rw [hf] at h
  exact ⟨n, List.mem_of_find?_eq_some hf, by have := List.find?_some hf; simpa using this, by simpa using h⟩
theorem Rc.mono {l : List Nd} {S T : List (List UInt8)} (h : ∀ x ∈ S, Rc l T x) {x : List UInt8} (hx : Rc l S x) : Rc l T x := by
 induction hx with
 | base h1 => exact h _ h1
 | step _ h1 ih => exact .step ih h1
theorem Rc.there {l : List Nd} (hv : APa l) {S : List (List UInt8)} (hS : ∀ x ∈ S, x ∈ As7 l) {x : List UInt8} (h : Rc l S x) : x ∈ As7 l := by
 cases h with
 | base h => exact hS _ h
 | step h1 h2 => obtain ⟨n, hn, _, hp⟩ := AKA h2; exact hv.there n hn _ hp

/-- Ids one behind the other, each behind all that have it aS a parent. -/
inductive Ord (l : List Nd) : List (List UInt8) → Prop
 | nil : Ord l []
 | snoc {d : List (List UInt8)} {x : List UInt8} : Ord l d → ¬ x ∈ d → x ∈ As7 l → (∀ n ∈ l, x ∈ n.ps → n.id ∈ d) → Ord l (d ++ [x])
theorem Ord.kids {l : List Nd} {d : List (List UInt8)} (h : Ord l d) : ∀ {x : List UInt8}, x ∈ d → ∀ n ∈ l, x ∈ n.ps → n.id ∈ d := by
 induction h with
 | nil => intro x hx; simp at hx
 | snoc h1 h2 h3 h4 ih =>
  intro x hx n hn hp
  rcases List.mem_append.1 hx with hx | hx
  ·exact List.mem_append_left _ (ih hx n hn hp)
  ·rw [List.mem_singleton] at hx; subst hx
   exact List.mem_append_left _ (h4 n hn hp)
theorem Ord.nodup {l : List Nd} {d : List (List UInt8)} (h : Ord l d) : d.Nodup := by
 induction h with
 | nil => simp
 | snoc h1 h2 h3 h4 ih =>
  rw [List.nodup_append]
  exact ⟨ih, by simp, fun a ha b hb => by rw [List.mem_singleton] at hb; subst hb; exact fun e => h2 (e ▸ ha)⟩
theorem Ord.sub {l : List Nd} {d : List (List UInt8)} (h : Ord l d) : ∀ x ∈ d, x ∈ As7 l := by
 induction h with
 | nil => simp
 | snoc h1 h2 h3 h4 ih =>
  intro x hx
  rcases List.mem_append.1 hx with hx | hx
  ·exact ih x hx
  ·rw [List.mem_singleton] at hx; subst hx; exact h3
theorem Ord.back {l : List Nd} {d : List (List UInt8)} (h : Ord l d) {n : Nd} (hn : n ∈ l) {x : List UInt8} (hr : Rc l n.ps x) : x ∈ d → n.id ∈ d := by
 induction hr with
 | base h1 => exact fun hx => h.kids hx n hn h1
 | step h1 h2 ih =>
  intro hx
  obtain ⟨m, hm, hme, hp⟩ := AKA h2
  exact ih (hme ▸ h.kids hx m hm hp)
theorem Ord.acyc {l : List Nd} {d : List (List UInt8)} (h : Ord l d) : ∀ {n : Nd}, n ∈ l → n.id ∈ d → ¬ Rc l n.ps n.id := by
 induction h with
 | nil => intro n _ h; simp at h
 | snoc h1 h2 h3 h4 ih =>
  intro n hn hx hr
  rcases List.mem_append.1 hx with hx | hx
  ·exact ih hn hx hr
  ·rw [List.mem_singleton] at hx
   apply h2
   rw [← hx]
   cases hr with
   | base h5 => exact h4 n hn (hx ▸ h5)
   | step h5 h6 =>
    obtain ⟨m, hm, hme, hp⟩ := AKA h6
    have hk := h4 m hm (hx ▸ hp)
    rw [hme] at hk
    exact h1.back hn h5 hk
theorem Awv {α : Type} [BEq α] [LawfulBEq α] : ∀ {d e : List α}, d.Nodup → (∀ x ∈ d, x ∈ e) → d.length ≤ e.length
 | [], e, _, _ => by simp
 | x :: d, e, h, hs => by
  rw [List.nodup_cons] at h
  have hx : x ∈ e := hs x (by simp)
  have := Awv (d := d) (e := e.erase x) h.2 fun y hy => (List.mem_erase_of_ne (fun (q : y = x) => h.1 (q ▸ hy))).2 (hs y (by simp [hy]))
  rw [List.length_erase_of_mem hx] at this
  have := List.length_pos_of_mem hx
  rw [List.length_cons]; omega
theorem AN1 {α : Type} [BEq α] [LawfulBEq α] {d e : List α} (h : d.Nodup) (hs : ∀ x ∈ d, x ∈ e) (hl : e.length ≤ d.length) {x : α} (hx : x ∈ e) : x ∈ d := by
 refine Classical.byContradiction fun hd => ?_
 have := Awv (d := x :: d) (e := e) (List.nodup_cons.2 ⟨hd, h⟩) fun y hy => by
  rcases List.mem_cons.1 hy with rfl | hy
  ·exact hx
  ·exact hs y hy
 rw [List.length_cons] at this; omega
theorem Ord.le {l : List Nd} {d : List (List UInt8)} (h : Ord l d) : d.length ≤ l.length := by
 have := Awv h.nodup h.sub
 rwa [As7, List.length_map] at this

theorem AJb {α : Type} {p q : α → Bool} : ∀ {l : List α}, (∀ x ∈ l, q x = true → p x = true) → (∃ x ∈ l, p x = true ∧ q x = false) → (l.filter q).length < (l.filter p).length
 | [], _, h => by obtain ⟨x, hx, _⟩ := h; simp at hx
 | a :: l, h1, h2 => by
  have hle : ∀ {l : List α}, (∀ x ∈ l, q x = true → p x = true) → (l.filter q).length ≤ (l.filter p).length := by
   intro l
   induction l with
   | nil => intro _; simp
   | cons b l ih =>
    intro h
    have := ih fun x hx => h x (by simp [hx])
    rw [List.filter_cons, List.filter_cons]
    cases hq : q b with
    | false => cases hp : p b <;> simp <;> omega
    | true => rw [h b (by simp) hq]; simp; omega
  rw [List.filter_cons, List.filter_cons]
  obtain ⟨x, hx, hp, hq⟩ := h2
  rcases List.mem_cons.1 hx with rfl | hx
  ·rw [hp, hq]
   have := hle (l := l) fun y hy => h1 y (List.mem_cons_of_mem _ hy)
   simp; omega
  ·have := AJb (l := l) (fun y hy => h1 y (by simp [hy])) ⟨x, hx, hp, hq⟩
   cases hq : q a with
   | false => cases hp : p a <;> simp <;> omega
   | true => rw [h1 a (by simp) hq]; simp; omega
/-- If each of some has a child among them, the graph goes round. -/
theorem AUE {l : List Nd} (hn : (As7 l).Nodup) {U : List UInt8 → Prop} (hU : ∀ y, U y → ∃ n ∈ l, U n.id ∧ y ∈ n.ps) {y : List UInt8} (hy : U y) (hyl : y ∈ As7 l) : Cyc l := by
 refine Classical.byContradiction fun hc => ?_
 have key : ∀ (k : Nat) (n : Nd), n ∈ l → U n.id → ((As7 l).filter fun x => !@decide (Rc l n.ps x) (Classical.propDecidable _)).length ≤ k → False := by
  intro k
  induction k with
  | zero =>
   intro n hnl hu hk
   have h0 := List.length_eq_zero_iff.1 (Nat.le_zero.1 hk)
   have : n.id ∈ ((As7 l).filter fun x => !@decide (Rc l n.ps x) (Classical.propDecidable _)) := by
    rw [List.mem_filter]
    refine ⟨AEU hnl, ?_⟩
    rw [Bool.not_eq_true', @decide_eq_false_iff_not _ (Classical.propDecidable _)]
    exact fun h => hc ⟨n, hnl, h⟩
   rw [h0] at this; simp at this
  | succ k ih =>
   intro n hnl hu hk
   obtain ⟨m, hm, hmu, hp⟩ := hU _ hu
   refine ih m hm hmu ?_
   have : ((As7 l).filter fun x => !@decide (Rc l m.ps x) (Classical.propDecidable _)).length < ((As7 l).filter fun x => !@decide (Rc l n.ps x) (Classical.propDecidable _)).length := by
    apply AJb
    ·intro x _ h
     rw [Bool.not_eq_true', @decide_eq_false_iff_not _ (Classical.propDecidable _)] at h ⊢
     refine fun hr => h (Rc.mono (fun z hz => ?_) hr)
     exact .step (.base hp) (by rw [AGV hn hnl]; exact hz)
    ·refine ⟨n.id, AEU hnl, ?_, ?_⟩
     ·rw [Bool.not_eq_true', @decide_eq_false_iff_not _ (Classical.propDecidable _)]
      exact fun h => hc ⟨n, hnl, h⟩
     ·rw [Bool.not_eq_false', @decide_eq_true_eq _ (Classical.propDecidable _)]
      exact .base hp
   omega
 obtain ⟨n, hnl, rfl⟩ := List.mem_map.1 hyl
 exact key _ n hnl hy (Nat.le_refl _)

/-- How often those that are not done name one aS a parent. -/
def kids (l : List Nd) (d : List (List UInt8)) (x : List UInt8) : Nat := ((l.filter fun n => !d.contains n.id).flatMap (·.ps)).count x
theorem APF {l : List Nd} {d : List (List UInt8)} {x : List UInt8} (h : kids l d x = 0) : ∀ n ∈ l, x ∈ n.ps → n.id ∈ d := by
 intro n hn hx
 unfold kids at h
 rw [List.count_eq_zero] at h
 refine Classical.byContradiction fun hd => h ?_
 exact List.mem_flatMap.2 ⟨n, List.mem_filter.2 ⟨hn, by simpa using hd⟩, hx⟩
theorem AT9 {l : List Nd} {d : List (List UInt8)} {x : List UInt8} (h : kids l d x ≠ 0) : ∃ n ∈ l, ¬ n.id ∈ d ∧ x ∈ n.ps := by
 unfold kids at h
 have := List.count_pos_iff.1 (Nat.pos_of_ne_zero h)
 obtain ⟨n, hn, hx⟩ := List.mem_flatMap.1 this
 obtain ⟨h1, h2⟩ := List.mem_filter.1 hn
 exact ⟨n, h1, by simpa using h2, hx⟩
theorem AKj {l : List Nd} (hn : (As7 l).Nodup) {d : List (List UInt8)} {n : Nd} (hnl : n ∈ l) (hd : ¬ n.id ∈ d) (x : List UInt8) : kids l d x = kids l (d ++ [n.id]) x + n.ps.count x := by
 unfold kids
 induction l with
 | nil => simp at hnl
 | cons a l ih =>
  rw [As7, List.map_cons, List.nodup_cons] at hn
  rw [List.filter_cons, List.filter_cons]
  rcases List.mem_cons.1 hnl with rfl | h
  ·have e1 : (!d.contains n.id) = true := by simpa using hd
   have e2 : (!(d ++ [n.id]).contains n.id) = false := by simp
   rw [e1, e2]
   have e3 : l.filter (fun m => !(d ++ [n.id]).contains m.id) = l.filter fun m => !d.contains m.id := by
    apply List.filter_congr
    intro m hm
    have : m.id ≠ n.id := fun e => hn.1 (e ▸ List.mem_map.2 ⟨m, hm, rfl⟩)
    simp [this]
   rw [e3]
   simp only [if_true, List.flatMap_cons, List.count_append]
   simp; omega
  ·have hne : a.id ≠ n.id := fun e => hn.1 (e ▸ List.mem_map.2 ⟨n, h, rfl⟩)
   have e1 : (!(d ++ [n.id]).contains a.id) = !d.contains a.id := by simp [hne]
   rw [e1]
   have := ih hn.2 h
   cases (!d.contains a.id)
   ·exact this
   ·simp only [if_true, List.flatMap_cons, List.count_append]; omega
/-- How it stands between two nodes that come free: done; free; what is left of each. -/
structure ANn (l : List Nd) (d fr : List (List UInt8)) (f : List UInt8 → Nat) : Prop where
 ord : Ord l d
 nodup : fr.Nodup
 free : ∀ y, y ∈ fr ↔ (y ∈ As7 l ∧ ¬ y ∈ d ∧ f y = 0)
 zero : ∀ y ∈ d, f y = 0
theorem ANn.take {l : List Nd} (hv : APa l) {d fr : List (List UInt8)} {n : Nd} (hnl : n ∈ l) (h : ANn l d (n.id :: fr) (kids l d)) : ANn l (d ++ [n.id]) fr (fun y => kids l (d ++ [n.id]) y + n.ps.count y) := by
 obtain ⟨h1, h2, h3⟩ := (h.free n.id).1 (by simp)
 have hnd := List.nodup_cons.1 h.nodup
 refine ⟨.snoc h.ord h2 h1 (APF h3), hnd.2, fun y => ?_, fun y hy => ?_⟩
 ·rw [← AKj hv.nodup hnl h2]
  have := h.free y
  constructor
  ·intro hy
   obtain ⟨k1, k2, k3⟩ := this.1 (by simp [hy])
   refine ⟨k1, fun hm => ?_, k3⟩
   rcases List.mem_append.1 hm with hm | hm
   ·exact k2 hm
   ·rw [List.mem_singleton] at hm; subst hm; exact hnd.1 hy
  ·rintro ⟨k1, k2, k3⟩
   have hm := this.2 ⟨k1, fun hm => k2 (by simp [hm]), k3⟩
   rcases List.mem_cons.1 hm with e | hm
   ·exact absurd (by simp [e]) k2
   ·exact hm
 ·show kids l (d ++ [n.id]) y + n.ps.count y = 0
  rw [← AKj hv.nodup hnl h2]
  rcases List.mem_append.1 hy with hy | hy
  ·exact h.zero y hy
  ·rw [List.mem_singleton] at hy; subst hy; exact h3
theorem ANn.congr {l : List Nd} {d fr : List (List UInt8)} {f g : List UInt8 → Nat} (h : ANn l d fr f) (e : ∀ y, g y = f y) : ANn l d fr g := by
 have : g = f := funext e
 rw [this]; exact h
/-- A parent, once. -/
theorem ANn.drop {l : List Nd} {d fr : List (List UInt8)} {f : List UInt8 → Nat} (h : ANn l d fr f) {p : List UInt8} (hp : p ∈ As7 l) (hf : f p ≠ 0) : ANn l d (if f p = 1 then fr ++ [p] else fr) (fun y => if p = y then f p - 1 else f y) := by
 have hpd : ¬ p ∈ d := fun hm => hf (h.zero p hm)
 have hpf : ¬ p ∈ fr := fun hm => hf ((h.free p).1 hm).2.2
 refine ⟨h.ord, ?_, fun y => ?_, fun y hy => ?_⟩
 ·split
  ·rw [List.nodup_append]
   exact ⟨h.nodup, by simp, fun a ha b hb => by rw [List.mem_singleton] at hb; subst hb; exact fun e => hpf (e ▸ ha)⟩
  ·exact h.nodup
 ·have := h.free y
  by_cases hy : p = y
  ·subst hy
   simp only [if_true]
   split
   ·rename_i h1; simp [hp, hpd, h1]
   ·rename_i h1
    constructor
    ·exact fun hm => absurd hm hpf
    ·rintro ⟨_, _, h2⟩; omega
  ·simp only [if_neg hy]
   split
   ·rw [← this, List.mem_append, List.mem_singleton]
    exact ⟨fun hm => hm.resolve_right fun e => hy e.symm, Or.inl⟩
   ·exact this
 ·have hne : p ≠ y := fun e => hpd (e ▸ hy)
  show (if p = y then f p - 1 else f y) = 0
  rw [if_neg hne]; exact h.zero y hy
theorem ANn.none {l : List Nd} (hv : APa l) {d : List (List UInt8)} (h : ANn l d [] (kids l d)) : d.length = l.length ↔ ¬ Cyc l := by
 constructor
 ·rintro he ⟨n, hn, hr⟩
  exact h.ord.acyc hn (AN1 h.ord.nodup h.ord.sub (by rw [he, As7, List.length_map]; exact Nat.le_refl _) (AEU hn)) hr
 ·intro hc
  refine Nat.le_antisymm h.ord.le ?_
  have : ∀ y ∈ As7 l, y ∈ d := by
   intro y hy
   refine Classical.byContradiction fun hd => hc (AUE hv.nodup (U := fun y => y ∈ As7 l ∧ ¬ y ∈ d) ?_ ⟨hy, hd⟩ hy)
   rintro z ⟨hz1, hz2⟩
   obtain ⟨n, hn, h1, h2⟩ := AT9 (l := l) (d := d) (x := z) fun e => by
    have := (h.free z).2 ⟨hz1, hz2, e⟩
    simp at this
   exact ⟨n, hn, ⟨AEU hn, h1⟩, h2⟩
  have := Awv hv.nodup this
  rwa [As7, List.length_map] at this
end Go.Proofs.YtingoaihnlhiaaaDoor


namespace Go.Proofs.YtingoaihnlhiaaaDoor
open Go.RowKit
variable [Atj]
set_option linter.unusedSectionVars false
set_option linter.unusedVariables false
set_option linter.unusedSimpArgs false

theorem AJD {l : List Nd} (hn : (As7 l).Nodup) {i : Nat} (h : i < l.length) : fnd l l[i].id = i := by
 refine AZb h (fun k hk e => ?_) rfl
 have h1 : (As7 l)[k]? = some l[k].id := by rw [As7, List.getElem?_map, List.getElem?_eq_getElem (by omega)]; rfl
 have h2 : (As7 l)[i]? = some l[i].id := by rw [As7, List.getElem?_map, List.getElem?_eq_getElem h]; rfl
 have := (List.getElem?_inj (i := k) (j := i) (by rw [As7, List.length_map]; omega) hn).1 (by rw [h1, h2, e])
 omega

noncomputable def A4Q (l : List Nd) (S : List (List UInt8)) : List Bool := l.map fun n => @decide (Rc l S n.id) (Classical.propDecidable _)

/-- AZE that are right so far. -/
structure AZE (l : List Nd) (S : List (List UInt8)) (m : List Bool) : Prop where
 len : m.length = l.length
 sound : ∀ i (h : i < l.length), m[i]? = some true → Rc l S l[i].id
theorem AtW {l : List UInt8} : AtQ (idT l) = false := by rw [As9]; rfl

end Go.Proofs.YtingoaihnlhiaaaDoor


namespace Go.Proofs.YtingoaihnlhiaaaDoor
open Go.RowKit
variable [Atj]
set_option linter.unusedSectionVars false
set_option linter.unusedVariables false
set_option autoImplicit false

theorem Rc.trans {l : List Nd} {S : List (List UInt8)} {x y : List UInt8} (h : Rc l S x) (k : Rc l [x] y) : Rc l S y := Rc.mono (fun z hz => by rw [List.mem_singleton.1 hz]; exact h) k
/-- What is reached is reached from one of them. -/
theorem Rc.one {l : List Nd} {S : List (List UInt8)} {x : List UInt8} (h : Rc l S x) : ∃ s ∈ S, Rc l [s] x := by
 induction h with
 | base h1 => exact ⟨_, h1, .base (by simp)⟩
 | step h1 h2 ih => obtain ⟨s, hs, hr⟩ := ih; exact ⟨s, hs, .step hr h2⟩
/-- From one: it itself, or what its parents reach. -/
theorem Rc.first {l : List Nd} {s x : List UInt8} (h : Rc l [s] x) : x = s ∨ Rc l (pOf l s) x := by
 induction h with
 | base h1 => exact .inl (List.mem_singleton.1 h1)
 | step h1 h2 ih =>
  rcases ih with rfl | ih
  ·exact .inr (.base h2)
  ·exact .inr (.step ih h2)
theorem Rc.up {l : List Nd} {s x : List UInt8} (h : Rc l (pOf l s) x) : Rc l [s] x := Rc.mono (fun y hy => .step (.base (by simp)) hy) h
/-- What the parents of some reach: of these it is what another one reaches. -/
theorem ALb {l : List Nd} (hok : GOk l) {D : List (List UInt8)} (hD : ∀ x ∈ D, x ∈ As7 l) {s : List UInt8} (hs : s ∈ D) : Rc l (D.flatMap (pOf l)) s ↔ ∃ k ∈ D, k ≠ s ∧ Rc l [k] s := by
 constructor
 ·intro h
  obtain ⟨p, hp, hr⟩ := Rc.one h
  obtain ⟨k, hk, hpk⟩ := List.mem_flatMap.1 hp
  have h1 : Rc l (pOf l k) s := Rc.mono (fun z hz => by rw [List.mem_singleton.1 hz]; exact .base hpk) hr
  refine ⟨k, hk, ?_, Rc.up h1⟩
  rintro rfl
  obtain ⟨n, hn, rfl⟩ := List.mem_map.1 (hD k hk)
  rw [AGV hok.1.nodup hn] at h1
  exact hok.2 ⟨n, hn, h1⟩
 ·rintro ⟨k, hk, hne, h⟩
  rcases Rc.first h with e | h
  ·exact absurd e.symm hne
  ·exact Rc.mono (fun z hz => .base (List.mem_flatMap.2 ⟨k, hk, hz⟩)) h

/-- A SEARCH: what was seen, and what is still to be seen. -/
structure AHZ (l : List Nd) (S seen todo : List (List UInt8)) : Prop where
 hseen : ∀ x ∈ seen, Rc l S x
 htodo : ∀ x ∈ todo, Rc l S x
 all : ∀ x ∈ S, x ∈ seen ∨ x ∈ todo
 next : ∀ x ∈ seen, ∀ y ∈ pOf l x, y ∈ seen ∨ y ∈ todo
 nodup : seen.Nodup
theorem AHZ.start {l : List Nd} {S : List (List UInt8)} : AHZ l S [] S := ⟨by simp, fun x h => .base h, fun x h => .inr h, by simp, List.nodup_nil⟩
theorem AHZ.skip {l : List Nd} {S seen todo : List (List UInt8)} {x : List UInt8} (h : AHZ l S seen (todo ++ [x])) (hx : x ∈ seen) : AHZ l S seen todo :=
 ⟨h.hseen, fun y hy => h.htodo y (List.mem_append_left _ hy), fun y hy => by
  rcases h.all y hy with k | k
  ·exact .inl k
  ·rcases List.mem_append.1 k with k | k
   ·exact .inr k
   ·rw [List.mem_singleton.1 k]; exact .inl hx, fun z hz y hy => by
  rcases h.next z hz y hy with k | k
  ·exact .inl k
  ·rcases List.mem_append.1 k with k | k
   ·exact .inr k
   ·rw [List.mem_singleton.1 k]; exact .inl hx, h.nodup⟩
theorem AHZ.take {l : List Nd} {S seen todo : List (List UInt8)} {x : List UInt8} (h : AHZ l S seen (todo ++ [x])) (hx : ¬ x ∈ seen) : AHZ l S (seen ++ [x]) (todo ++ pOf l x) :=
 ⟨fun y hy => by
  rcases List.mem_append.1 hy with k | k
  ·exact h.hseen y k
  ·rw [List.mem_singleton.1 k]; exact h.htodo x (by simp), fun y hy => by
  rcases List.mem_append.1 hy with k | k
  ·exact h.htodo y (List.mem_append_left _ k)
  ·exact .step (h.htodo x (by simp)) k, fun y hy => by
  rcases h.all y hy with k | k
  ·exact .inl (List.mem_append_left _ k)
  ·rcases List.mem_append.1 k with k | k
   ·exact .inr (List.mem_append_left _ k)
   ·exact .inl (List.mem_append_right _ k), fun z hz y hy => by
  rcases List.mem_append.1 hz with hz | hz
  ·rcases h.next z hz y hy with k | k
   ·exact .inl (List.mem_append_left _ k)
   ·rcases List.mem_append.1 k with k | k
    ·exact .inr (List.mem_append_left _ k)
    ·exact .inl (List.mem_append_right _ k)
  ·rw [List.mem_singleton.1 hz] at hy
   exact .inr (List.mem_append_right _ hy), by
  rw [List.nodup_append]
  exact ⟨h.nodup, by simp, fun a ha b hb e => by rw [List.mem_singleton] at hb; subst hb; subst e; exact hx ha⟩⟩
theorem AHZ.done {l : List Nd} {S seen : List (List UInt8)} (h : AHZ l S seen []) (x : List UInt8) : x ∈ seen ↔ Rc l S x := by
 constructor
 ·exact h.hseen x
 ·intro k
  induction k with
  | base h1 => exact (h.all _ h1).resolve_right (by simp)
  | step h1 h2 ih => exact (h.next _ ih _ h2).resolve_right (by simp)
/-- How long it may go on: what may still be laid up. -/
def AHZ.left (l : List Nd) (seen todo : List (List UInt8)) : Nat := todo.length + ((l.filter fun n => !seen.contains n.id).map fun n => n.ps.length + 1).sum
theorem AHZ.le {l : List Nd} (hn : (As7 l).Nodup) {seen todo : List (List UInt8)} {n : Nd} (hnl : n ∈ l) (hx : ¬ n.id ∈ seen) : AHZ.left l (seen ++ [n.id]) (todo ++ n.ps) < AHZ.left l seen (todo ++ [n.id]) := by
 unfold AHZ.left
 simp only [List.length_append, List.length_singleton]
 have key : ∀ (m : List Nd), (As7 m).Nodup → n ∈ m → ((m.filter fun q => !(seen ++ [n.id]).contains q.id).map fun q => q.ps.length + 1).sum + (n.ps.length + 1) = ((m.filter fun q => !seen.contains q.id).map fun q => q.ps.length + 1).sum := by
  intro m
  induction m with
  | nil => intro _ h; cases h
  | cons a m ih =>
   intro hnd hm
   rw [As7, List.map_cons, List.nodup_cons] at hnd
   rcases List.mem_cons.1 hm with rfl | hm
   ·have e1 : (!(seen ++ [n.id]).contains n.id) = false := by simp
    have e2 : (!seen.contains n.id) = true := by simpa using hx
    rw [List.filter_cons_of_neg (by rw [e1]; simp), List.filter_cons_of_pos (by rw [e2])]
    rw [List.map_cons, List.sum_cons]
    have e3 : (m.filter fun q => !(seen ++ [n.id]).contains q.id) = m.filter fun q => !seen.contains q.id := by
     refine List.filter_congr fun q hq => ?_
     have hne : q.id ≠ n.id := fun e => hnd.1 (e ▸ List.mem_map.2 ⟨q, hq, rfl⟩)
     simp [hne]
    rw [e3]; omega
   ·have hne : a.id ≠ n.id := fun e => hnd.1 (e ▸ List.mem_map.2 ⟨n, hm, rfl⟩)
    have ih' := ih hnd.2 hm
    by_cases ha : a.id ∈ seen
    ·rw [List.filter_cons_of_neg (by simp [ha]), List.filter_cons_of_neg (by simp [ha])]
     exact ih'
    ·rw [List.filter_cons_of_pos (by simp [ha, hne]), List.filter_cons_of_pos (by simp [ha]), List.map_cons, List.map_cons, List.sum_cons, List.sum_cons]
     omega
 have := key l hn hnl
 omega
end Go.Proofs.YtingoaihnlhiaaaDoor


namespace Go.Proofs.YtingoaihnlhiaaaDoor
open Go.RowKit
variable [Atj]
set_option linter.unusedSectionVars false
set_option linter.unusedVariables false
set_option linter.unusedSimpArgs false

noncomputable def A5o (l : List Nd) : Nat := @ite _ (GOk l) (Classical.propDecidable _) 0 80
end Go.Proofs.YtingoaihnlhiaaaDoor


namespace Go.Proofs.YtingoaihnlhiaaaDoor
open Go.RowKit
variable [Atj]
set_option linter.unusedSectionVars false
set_option linter.unusedVariables false
set_option autoImplicit false

theorem AO8 {k l : List UInt8} {x : TV} : ∀ {es : List (List UInt8 × TV)}, AwD k (AwJ l x es) = if l = k then some x else AwD k es
 | [] => by simp [AwJ, AwD]
 | (q, y) :: es => by
  rw [AwJ]
  by_cases hq : q = l
  ·subst hq
   rw [if_pos rfl, AwD, AwD]
   by_cases h : q = k <;> simp [h]
  ·rw [if_neg hq, AwD, AwD, AO8]
   by_cases h : q = k
   ·subst h; rw [if_pos rfl, if_neg (fun e => hq e.symm), if_pos rfl]
   ·rw [if_neg h, if_neg h]
theorem AFd {k : List UInt8} {x : TV} : ∀ {es : List (List UInt8 × TV)}, (AwJ k x es)[AEn k es]? = some (k, x)
 | [] => by simp [AwJ, AEn]
 | (q, y) :: es => by
  rw [AwJ, AEn]
  by_cases hq : q = k
  ·subst hq; simp
  ·rw [if_neg hq, if_neg hq, List.getElem?_cons_succ, AFd]
theorem AB2 {k : List UInt8} {x y : TV} : ∀ {es : List (List UInt8 × TV)}, (AwJ k x es).set (AEn k es) (k, y) = AwJ k y es
 | [] => by simp [AwJ, AEn]
 | (q, z) :: es => by
  rw [AwJ, AEn]
  by_cases hq : q = k
  ·subst hq; simp [AwJ]
  ·rw [if_neg hq, if_neg hq, List.set_cons_succ, AB2, AwJ, if_neg hq]
theorem pr1 {α β : Type} {a : α} {b : β} : (a, b).1 = a := by simp
theorem pr2 {α β : Type} {a : α} {b : β} : (a, b).2 = b := by simp
theorem AM9 {k : List UInt8} {x : TV} : ∀ {es : List (List UInt8 × TV)}, (AwJ k x es).length = es.length + if k ∈ es.map (·.1) then 0 else 1
 | [] => by simp [AwJ]
 | (q, y) :: es => by
  rw [AwJ]
  by_cases hq : q = k
  ·subst hq; simp
  ·rw [if_neg hq, List.length_cons, AM9]
   have : ¬ k = q := fun e => hq e.symm
   simp only [List.map_cons, List.mem_cons, this, false_or, List.length_cons]
   omega
theorem AKu {k : List UInt8} {x : TV} : ∀ {es : List (List UInt8 × TV)}, ¬ k ∈ es.map (·.1) → AwJ k x es = es ++ [(k, x)]
 | [], _ => by simp [AwJ]
 | (q, y) :: es, h => by
  rw [List.map_cons, List.mem_cons, not_or] at h
  rw [AwJ, if_neg (fun e => h.1 e.symm), AKu h.2, List.cons_append]
theorem AKR {k : List UInt8} {x : TV} : ∀ {es : List (List UInt8 × TV)} (y : List UInt8), y ∈ (AwJ k x es).map (·.1) ↔ y = k ∨ y ∈ es.map (·.1)
 | [], y => by simp [AwJ]
 | (q, z) :: es, y => by
  rw [AwJ]
  by_cases hq : q = k
  ·subst hq; simp
  ·rw [if_neg hq, List.map_cons, List.mem_cons, AKR, List.map_cons, List.mem_cons]
   simp only []
   constructor
   ·rintro (h | h | h)
    ·exact .inr (.inl h)
    ·exact .inl h
    ·exact .inr (.inr h)
   ·rintro (h | h | h)
    ·exact .inr (.inl h)
    ·exact .inl h
    ·exact .inr (.inr h)

theorem AIr {α : Type} {P : List α → Prop} (h0 : P []) (hs : ∀ l a, P l → P (l ++ [a])) (l : List α) : P l := by
 have key : ∀ r : List α, P r.reverse := by
  intro r
  induction r with
  | nil => exact h0
  | cons a r ih => rw [List.reverse_cons]; exact hs _ _ ih
 have := key l.reverse
 rwa [List.reverse_reverse] at this
/-- Nodes by their ids, aS they are laid in, one by one. -/
def Atf (l : List Nd) : List (List UInt8 × TV) := l.foldl (fun es n => AwJ n.id (ndT n) es) []
theorem Azk {l : List Nd} {n : Nd} : Atf (l ++ [n]) = AwJ n.id (ndT n) (Atf l) := by simp [Atf]
theorem AMd {l : List Nd} : ∀ y, y ∈ (Atf l).map (·.1) ↔ y ∈ As7 l := by
 refine AIr (P := fun l => ∀ y, y ∈ (Atf l).map (·.1) ↔ y ∈ As7 l) ?_ ?_ l
 ·simp [Atf, As7]
 ·intro l n ih y
  rw [Azk, AKR, ih]
  simp [As7, or_comm]
theorem AAv {l : List Nd} : (Atf l).length ≤ l.length ∧ ((Atf l).length = l.length ↔ (As7 l).Nodup) ∧ ((As7 l).Nodup → Atf l = l.map fun n => (n.id, ndT n)) := by
 refine AIr (P := fun l => (Atf l).length ≤ l.length ∧ ((Atf l).length = l.length ↔ (As7 l).Nodup) ∧ ((As7 l).Nodup → Atf l = l.map fun n => (n.id, ndT n))) ?_ ?_ l
 ·simp [Atf, As7]
 ·intro l n ih
  obtain ⟨h1, h2, h3⟩ := ih
  have hk := AMd (l := l) n.id
  have hlen := AM9 (k := n.id) (x := ndT n) (es := Atf l)
  rw [Azk, List.length_append, List.length_singleton]
  have hnd : (As7 (l ++ [n])).Nodup ↔ (As7 l).Nodup ∧ ¬ n.id ∈ As7 l := by
   have e : As7 (l ++ [n]) = As7 l ++ [n.id] := by simp [As7]
   rw [e, List.nodup_append]
   constructor
   ·rintro ⟨g1, _, g2⟩
    exact ⟨g1, fun hm => g2 _ hm _ (by simp) rfl⟩
   ·rintro ⟨g1, g2⟩
    exact ⟨g1, by simp, fun a ha b hb => by rw [List.mem_singleton] at hb; subst hb; exact fun e => g2 (e ▸ ha)⟩
  by_cases hm : n.id ∈ As7 l
  ·rw [if_pos (hk.2 hm)] at hlen
   refine ⟨by omega, ⟨fun e => by omega, fun e => absurd hm (hnd.1 e).2⟩, fun e => absurd hm (hnd.1 e).2⟩
  ·rw [if_neg (fun h => hm (hk.1 h))] at hlen
   refine ⟨by omega, ⟨fun e => hnd.2 ⟨h2.1 (by omega), hm⟩, fun e => by have := h2.2 (hnd.1 e).1; omega⟩, fun e => ?_⟩
   rw [AKu (fun h => hm (hk.1 h)), h3 (hnd.1 e).1]
   simp
theorem ALs {l : List Nd} {x : List UInt8} : AwD x (l.map fun n => (n.id, ndT n)) = (l.find? fun n => n.id == x).map ndT := by
 induction l with
 | nil => rfl
 | cons n l ih =>
  rw [List.map_cons, AwD, List.find?_cons]
  by_cases h : n.id = x
  ·simp [h]
  ·have : (n.id == x) = false := by simpa using h
   rw [if_neg h, this, ih]
theorem AvD {l : List Nd} (hn : (As7 l).Nodup) {n : Nd} (h : n ∈ l) : AwD n.id (Atf l) = some (ndT n) := by
 rw [AAv.2.2 hn, ALs]
 obtain ⟨i, hi, rfl⟩ := List.mem_iff_getElem.1 h
 have : (l.find? fun m => m.id == l[i].id) = some l[i] := by
  rw [List.find?_eq_some_iff_getElem]
  refine ⟨by simp, i, hi, rfl, fun j hj => ?_⟩
  have := AJD hn hi
  have hne : ¬ l[j].id = l[i].id := fun e => by
   have h2 := AJD hn (i := j) (by omega)
   rw [e] at h2; omega
  simpa using hne
 rw [this]; rfl
theorem AI2 {l : List Nd} {x : List UInt8} (h : ¬ x ∈ As7 l) (hn : (As7 l).Nodup) : AwD x (Atf l) = none := by
 rw [AAv.2.2 hn, ALs, Option.map_eq_none_iff, List.find?_eq_none]
 intro n hnl
 have : ¬ n.id = x := fun e => h (e ▸ AEU hnl)
 simpa using this

/-- No entry refers to an object. -/
def AA7 (es : List (List UInt8 × TV)) : Prop := ∀ g, Ave g (es.map (·.2)) = true
theorem AA7.put {es : List (List UInt8 × TV)} (h : AA7 es) {k : List UInt8} {x : TV} (hx : ∀ g, Avp g x = true) : AA7 (AwJ k x es) := by
 intro g
 have h1 := h g
 clear h
 induction es with
 | nil => rw [AwJ, List.map_cons, Ave, hx g]; rfl
 | cons e es ih =>
  obtain ⟨q, y⟩ := e
  rw [List.map_cons, Ave, Bool.and_eq_true] at h1
  rw [AwJ]
  split
  ·rw [List.map_cons, Ave, hx g, h1.2]; rfl
  ·rw [List.map_cons, Ave, h1.1, ih h1.2]; rfl
theorem AA7.nil : AA7 [] := fun g => rfl
theorem AuG {l : List Nd} : AA7 (Atf l) := by
 refine AIr (P := fun l => AA7 (Atf l)) AA7.nil (fun l n ih => ?_) l
 rw [Azk]
 exact ih.put fun g => by rw [Atl]; rfl
/-- A map that counts. -/
def AIs (es : List (List UInt8 × TV)) (f : List UInt8 → Nat) : Prop := ∀ y, (AwD y es).getD (i64 ((0 : Nat) : Int)) = i64 ((f y : Nat) : Int)
theorem AIs.put {es : List (List UInt8 × TV)} {f : List UInt8 → Nat} (h : AIs es f) (p : List UInt8) (n : Nat) : AIs (AwJ p (i64 ((n : Nat) : Int)) es) (fun y => if p = y then n else f y) := by
 intro y
 rw [AO8]
 by_cases e : p = y
 ·simp [e]
 ·simp only [if_neg e]; exact h y
theorem AIs.congr {es : List (List UInt8 × TV)} {f g : List UInt8 → Nat} (h : AIs es f) (e : ∀ y, g y = f y) : AIs es g := fun y => by rw [e]; exact h y
theorem AIs.nil : AIs [] (fun _ => 0) := fun y => by rw [AwD]; rfl

theorem AW6 {l : List Nd} (hp : ∀ n ∈ l, n.ps.length ≤ 1000) (d : List (List UInt8)) (y : List UInt8) : kids l d y ≤ 1000 * l.length := by
 unfold kids
 refine Nat.le_trans List.count_le_length ?_
 rw [List.length_flatMap]
 induction l with
 | nil => simp
 | cons n l ih =>
  have h1 := ih fun m hm => hp m (by simp [hm])
  have h2 := hp n (by simp)
  rw [List.filter_cons, List.length_cons]
  split
  ·rw [List.map_cons, List.sum_cons]; omega
  ·omega
theorem ATc {l : List Nd} {y : List UInt8} : kids l [] y = (l.flatMap (·.ps)).count y := by
 unfold kids
 rw [List.filter_eq_self.2 (by simp)]
end Go.Proofs.YtingoaihnlhiaaaDoor


namespace Go.Proofs.YtingoaihnlhiaaaDoor
open Go.RowKit
variable [Atj]
set_option linter.unusedSectionVars false
set_option linter.unusedVariables false
set_option linter.unusedSimpArgs false

theorem APV {n : Nd} : As6 (ndT n) = 22 := by rw [Atl]; rfl
theorem ATp {cs : List TV} {off m : Nat} {x : List UInt8} {fr : List (List UInt8)} (h : (cs.drop off).take (m + 1) = (x :: fr).map idT) : cs[off]? = some (idT x) ∧ (cs.drop (off + 1)).take m = fr.map idT := by
 have h0 : ((cs.drop off).take (m + 1))[0]? = some (idT x) := by rw [h]; rfl
 rw [List.getElem?_take, if_pos (by omega), List.getElem?_drop, Nat.add_zero] at h0
 refine ⟨h0, ?_⟩
 have h1 := congrArg (List.drop 1) h
 rw [List.drop_take, List.drop_drop] at h1
 simpa using h1

theorem AKC {l : List Nd} {n : Nd} {g : Nat} : Ave g ((AwJ n.id (TV.agg [TV.arr 20 1 (n.id.map by8), TV.sl 20 (n.ps.map idT), i64 n.tm]) (Atf l)).map (·.2)) = true := (AuG.put (x := TV.agg _) fun g => rfl) g
abbrev AGz : Ob := .obj 0 (.agg [.mp 0 0, .val (.map none)])
theorem A1t (l : List Nd) (hl : l.length ≤ 1000) (hp : ∀ n ∈ l, n.ps.length ≤ 1000) : AsZ Tryd.prog 35 [.sl 22 (l.map ndT)] [] (fun x H' =>
  (GOk l → x = .tup [.op 1 0 [], .val .nilIface] ∧ ∃ es o, H' = [.mpo (.arr 20) (Atf l), AGz, .mpo (.arr 20) es, o]) ∧ (¬ GOk l → x = .tup [.val (.pointer none), .ifc 36 (i64 ((80 : Nat) : Int))])) := by
 refine AKo (by simp) ?_
 simp -dsimp (disch := first | assumption | omega) only [↓AsU, AsP, AsT, AsR, eq_self, forall_const, Nat.reduceLT, Nat.reduceEqDiff, Nat.reduceSub, Nat.reduceMul, Nat.reduceMod, Nat.reduceDiv, Nat.reducePow, UInt8.reduceToNat, Int.reduceEq, Int.reduceLT, Int.reduceLE, ↓reduceIte, Nat.reduceAdd, Int.reduceToNat, reduceCtorEq, Nat.reduceLeDiff, ↓Atd]
 -- the nodes
 refine AtO (fun q e H => ∃ i : Nat, q = l.length - i ∧ i ≤ l.length ∧ e = [(0, .sl 22 (l.map ndT)), (4, .op 1 0 []), (26, .sl 22 (l.map ndT)), (27, i64 (l.length : Int)), (28, i64 (i : Int))] ∧ H = [.mpo (.arr 20) (Atf (l.take i)), AGz]) l.length ?_ ?_
 ·exact ⟨0, by simp, by simp, rfl, by simp [Atf]⟩
 ·rintro q e H ⟨i, rfl, hi, rfl, rfl⟩
  by_cases h : i < l.length
  ·have hg : l[i]? = some l[i] := List.getElem?_eq_getElem h
   have hsucc := List.take_succ_eq_append_getElem h
   generalize l[i] = n at *
   simp -dsimp (disch := first | assumption | omega) only [↓AsU, AsP, AsT, AsR, eq_self, forall_const, Nat.reduceLT, Nat.reduceEqDiff, Nat.reduceSub, Nat.reduceMul, Nat.reduceMod, Nat.reduceDiv, Nat.reducePow, UInt8.reduceToNat, Int.reduceEq, Int.reduceLT, Int.reduceLE, ↓reduceIte, Nat.reduceAdd, Int.reduceToNat, reduceCtorEq, Nat.reduceLeDiff, ↓Atd, hg, Atl]
   refine ABL (l.length - (i + 1)) 2 (by omega) (by simp) rfl (by simp [AyU, ACC, Avp, Ave, AuG _, AKC]) ⟨i + 1, rfl, by omega, rfl, ?_⟩
   rw [hsucc, Azk, Atl]; rfl
  ·have hi2 : i = l.length := by omega
   rw [hi2, List.take_length]
   clear hi2 hi
   by_cases hn : (As7 l).Nodup
   case neg =>
    have h1 := (AAv (l := l)).1
    have h2 : ¬ (Atf l).length = l.length := fun e => hn (AAv.2.1.1 e)
    have h3 : (Atf l).length < l.length := by omega
    have hno : ¬ GOk l := fun hok => hn hok.1.nodup
    simp -dsimp (disch := first | assumption | omega) only [↓AsU, AsP, AsT, AsR, eq_self, forall_const, Nat.reduceLT, Nat.reduceEqDiff, Nat.reduceSub, Nat.reduceMul, Nat.reduceMod, Nat.reduceDiv, Nat.reducePow, UInt8.reduceToNat, Int.reduceEq, Int.reduceLT, Int.reduceLE, ↓reduceIte, Nat.reduceAdd, Int.reduceToNat, reduceCtorEq, Nat.reduceLeDiff, ↓Atd]
    exact ⟨fun hok => absurd hok hno, by simp⟩
   have hlen : (Atf l).length = l.length := AAv.2.1.2 hn
   simp -dsimp (disch := first | assumption | omega) only [↓AsU, AsP, AsT, AsR, eq_self, forall_const, Nat.reduceLT, Nat.reduceEqDiff, Nat.reduceSub, Nat.reduceMul, Nat.reduceMod, Nat.reduceDiv, Nat.reducePow, UInt8.reduceToNat, Int.reduceEq, Int.reduceLT, Int.reduceLE, ↓reduceIte, Nat.reduceAdd, Int.reduceToNat, reduceCtorEq, Nat.reduceLeDiff, ↓Atd, hlen]
   -- who names whom
   refine AtO (fun q e H => ∃ (i : Nat) (es : List (List UInt8 × TV)) (f : List UInt8 → Nat), q = l.length - i ∧ i ≤ l.length ∧ (AIs es f ∧ AA7 es) ∧ (∀ y, f y = ((l.take i).flatMap (·.ps)).count y) ∧ (∀ y, f y ≤ 1000 * i) ∧ (∀ n ∈ l.take i, ∀ p ∈ n.ps, p ∈ As7 l) ∧
    e = [(0, .sl 22 (l.map ndT)), (4, .op 1 0 []), (7, .mp 2 0), (55, .sl 22 (l.map ndT)), (56, i64 (l.length : Int)), (57, i64 (i : Int))] ∧ H = [.mpo (.arr 20) (Atf l), AGz, .mpo (.arr 20) es]) l.length ?_ ?_
   ·exact ⟨0, [], fun _ => 0, by simp, by simp, ⟨AIs.nil, AA7.nil⟩, by simp, by simp, by simp, rfl, rfl⟩
   ·clear h i
    rintro q e H ⟨i, es, f, rfl, hi, ⟨hc, hbm⟩, hf, hb, hv, rfl, rfl⟩
    by_cases h : i < l.length
    ·have hg : l[i]? = some l[i] := List.getElem?_eq_getElem h
     have hsucc := List.take_succ_eq_append_getElem h
     have hpi := hp l[i] (List.getElem_mem h)
     have hmem := List.getElem_mem h
     generalize l[i] = n at *
     simp -dsimp (disch := first | assumption | omega) only [↓AsU, AsP, AsT, AsR, eq_self, forall_const, Nat.reduceLT, Nat.reduceEqDiff, Nat.reduceSub, Nat.reduceMul, Nat.reduceMod, Nat.reduceDiv, Nat.reducePow, UInt8.reduceToNat, Int.reduceEq, Int.reduceLT, Int.reduceLE, ↓reduceIte, Nat.reduceAdd, Int.reduceToNat, reduceCtorEq, Nat.reduceLeDiff, ↓Atd, hg, Atl]
     refine AtO (fun q e H => ∃ (k : Nat) (es : List (List UInt8 × TV)) (f' : List UInt8 → Nat), q = n.ps.length - k ∧ k ≤ n.ps.length ∧ (AIs es f' ∧ AA7 es) ∧ (∀ y, f' y = f y + (n.ps.take k).count y) ∧ (∀ y, f' y ≤ 1000 * i + k) ∧ (∀ p ∈ n.ps.take k, p ∈ As7 l) ∧
      e = [(0, .sl 22 (l.map ndT)), (4, .op 1 0 []), (7, .mp 2 0), (55, .sl 22 (l.map ndT)), (56, i64 (l.length : Int)), (57, i64 (i : Int)), (62, .sl 20 (n.ps.map idT)), (63, i64 (n.ps.length : Int)), (64, i64 (k : Int))] ∧ H = [.mpo (.arr 20) (Atf l), AGz, .mpo (.arr 20) es, .obj 0 (ndT n)]) n.ps.length ?_ ?_
     ·exact ⟨0, es, f, by simp, by simp, ⟨hc, hbm⟩, by simp, by simpa using hb, by simp, rfl, by rw [Atl]⟩
     ·clear hc hbm
      rintro q e H ⟨k, es, f', rfl, hk, ⟨hc, hbm⟩, hf2, hb2, hv2, rfl, rfl⟩
      by_cases h2 : k < n.ps.length
      ·have hg2 : n.ps[k]? = some n.ps[k] := List.getElem?_eq_getElem h2
       have hsucc2 := List.take_succ_eq_append_getElem h2
       have hpm := List.getElem_mem h2
       generalize n.ps[k] = p at *
       have hcp := hc p
       have hbp := hb2 p
       by_cases hpl : p ∈ As7 l
       ·obtain ⟨m, hm, hme⟩ := List.mem_map.1 hpl
        have hlook : AwD p (Atf l) = some (ndT m) := by rw [← hme]; exact AvD hn hm
        simp -dsimp (disch := first | assumption | omega) only [↓AsU, AsP, AsT, AsR, eq_self, forall_const, Nat.reduceLT, Nat.reduceEqDiff, Nat.reduceSub, Nat.reduceMul, Nat.reduceMod, Nat.reduceDiv, Nat.reducePow, UInt8.reduceToNat, Int.reduceEq, Int.reduceLT, Int.reduceLE, ↓reduceIte, Nat.reduceAdd, Int.reduceToNat, reduceCtorEq, Nat.reduceLeDiff, ↓Atd, hg2, As9, hlook, Atl, Option.isSome_some, Option.isSome_none]
        simp -dsimp (disch := first | assumption | omega) only [↓AsU, AsP, AsT, AsR, eq_self, forall_const, Nat.reduceLT, Nat.reduceEqDiff, Nat.reduceSub, Nat.reduceMul, Nat.reduceMod, Nat.reduceDiv, Nat.reducePow, UInt8.reduceToNat, Int.reduceEq, Int.reduceLT, Int.reduceLE, ↓reduceIte, Nat.reduceAdd, Int.reduceToNat, reduceCtorEq, Nat.reduceLeDiff, ↓Atd, hcp, AFd, AB2, pr1, pr2]
        refine ABL (n.ps.length - (k + 1)) 4 (by omega) (by simp) rfl (by simp [AyU, ACC, Avp, Ave, AuG _, hbm _, Atl, As9, (hbm.put (x := .val (.int .i64 ((f' p : Nat) + 1 : Int))) fun g => rfl) 4]) ⟨k + 1, _, _, rfl, by omega, ⟨hc.put p (f' p + 1), hbm.put fun g => rfl⟩, fun y => ?_, fun y => ?_, fun y hy => ?_, rfl, by rw [Atl]; rfl⟩
        ·rw [hsucc2, List.count_append, ← Nat.add_assoc, ← hf2 y]
         by_cases e : p = y
         ·subst e; simp
         ·simp [e]
        ·have := hb2 y
         by_cases e : p = y
         ·subst e; simp; omega
         ·simp [e]; omega
        ·rw [hsucc2, List.mem_append, List.mem_singleton] at hy
         rcases hy with hy | rfl
         ·exact hv2 y hy
         ·exact hpl
       ·have hlook := AI2 hpl hn
        have hno : ¬ GOk l := fun hok => hpl (hok.1.there n hmem p hpm)
        simp -dsimp (disch := first | assumption | omega) only [↓AsU, AsP, AsT, AsR, eq_self, forall_const, Nat.reduceLT, Nat.reduceEqDiff, Nat.reduceSub, Nat.reduceMul, Nat.reduceMod, Nat.reduceDiv, Nat.reducePow, UInt8.reduceToNat, Int.reduceEq, Int.reduceLT, Int.reduceLE, ↓reduceIte, Nat.reduceAdd, Int.reduceToNat, reduceCtorEq, Nat.reduceLeDiff, ↓Atd, hg2, As9, hlook, Option.isSome_some, Option.isSome_none]
        exact ⟨fun hok => absurd hok hno, by simp⟩
      ·have hk2 : k = n.ps.length := by omega
       rw [hk2] at hf2 hv2
       rw [List.take_length] at hv2
       simp -dsimp (disch := first | assumption | omega) only [↓AsU, AsP, AsT, AsR, eq_self, forall_const, Nat.reduceLT, Nat.reduceEqDiff, Nat.reduceSub, Nat.reduceMul, Nat.reduceMod, Nat.reduceDiv, Nat.reducePow, UInt8.reduceToNat, Int.reduceEq, Int.reduceLT, Int.reduceLE, ↓reduceIte, Nat.reduceAdd, Int.reduceToNat, reduceCtorEq, Nat.reduceLeDiff, ↓Atd]
       refine ABL (l.length - (i + 1)) 3 (by omega) (by simp) rfl (by simp [AyU, ACC, Avp, Ave, AuG _, hbm _, Atl, As9]) ⟨i + 1, es, f', rfl, by omega, ⟨hc, hbm⟩, fun y => ?_, fun y => by have := hb2 y; omega, fun m hm p hp' => ?_, rfl, rfl⟩
       ·rw [hf2 y, hsucc, List.take_length, hf y]; simp
       ·rw [hsucc, List.mem_append, List.mem_singleton] at hm
        rcases hm with hm | rfl
        ·exact hv m hm p hp'
        ·exact hv2 p hp'
    ·have hi2 : i = l.length := by omega
     rw [hi2, List.take_length] at hf hv
     clear hi2 hi hb
     have hV : APa l := ⟨hn, hv⟩
     replace hf : ∀ y, f y = kids l [] y := fun y => by rw [hf y, ATc]
     replace hc : AIs es (kids l []) := hc.congr fun y => (hf y).symm
     clear hf hv
     have hkb := fun d y => AW6 hp d y
     simp -dsimp (disch := first | assumption | omega) only [↓AsU, AsP, AsT, AsR, eq_self, forall_const, Nat.reduceLT, Nat.reduceEqDiff, Nat.reduceSub, Nat.reduceMul, Nat.reduceMod, Nat.reduceDiv, Nat.reducePow, UInt8.reduceToNat, Int.reduceEq, Int.reduceLT, Int.reduceLE, ↓reduceIte, Nat.reduceAdd, Int.reduceToNat, reduceCtorEq, Nat.reduceLeDiff, ↓Atd]
     -- those that are free at first
     refine AtO (fun q e H => ∃ (i v : Nat) (fr : List (List UInt8)), q = l.length - i ∧ i ≤ l.length ∧ fr = (As7 (l.take i)).filter (fun y => decide (kids l [] y = 0)) ∧ fr.length ≤ i ∧
      e = [(0, .sl 22 (l.map ndT)), (4, .op 1 0 []), (7, .mp 2 0), (14, .os 20 3 v [] 0 fr.length fr.length), (88, .sl 22 (l.map ndT)), (89, i64 (l.length : Int)), (90, i64 (i : Int))] ∧ H = [.mpo (.arr 20) (Atf l), AGz, .mpo (.arr 20) es, .obj v (.arr fr.length 20 (fr.map idT))]) l.length ?_ ?_
     ·exact ⟨0, 0, [], by simp, by simp, by simp [As7], by simp, rfl, rfl⟩
     ·clear h i
      rintro q e H ⟨i, v, fr, rfl, hi, hfr, hfl, rfl, rfl⟩
      by_cases h : i < l.length
      ·have hg : l[i]? = some l[i] := List.getElem?_eq_getElem h
       have hsucc := List.take_succ_eq_append_getElem h
       generalize l[i] = n at *
       have hcp := hc n.id
       have hkn := hkb [] n.id
       have hfs : (As7 (l.take (i + 1))).filter (fun y => decide (kids l [] y = 0)) = fr ++ (if kids l [] n.id = 0 then [n.id] else []) := by
        rw [hsucc, hfr]
        simp only [As7, List.map_append, List.filter_append, List.map_cons, List.map_nil]
        congr 1
        by_cases h0 : kids l [] n.id = 0 <;> simp [h0]
       by_cases h0 : kids l [] n.id = 0
       ·rw [if_pos h0] at hfs
        rw [h0] at hcp
        have htk : (fr.map idT).take fr.length = fr.map idT := AvF rfl
        simp -dsimp (disch := first | assumption | omega) only [↓AsU, AsP, AsT, AsR, eq_self, forall_const, Nat.reduceLT, Nat.reduceEqDiff, Nat.reduceSub, Nat.reduceMul, Nat.reduceMod, Nat.reduceDiv, Nat.reducePow, UInt8.reduceToNat, Int.reduceEq, Int.reduceLT, Int.reduceLE, ↓reduceIte, Nat.reduceAdd, Int.reduceToNat, reduceCtorEq, Nat.reduceLeDiff, ↓Atd, hg, Atl, hcp, ABJ, Azz, htk, AIP]
        refine ABL (l.length - (i + 1)) 4 (by omega) (by simp) rfl (by simp [AyU, ACC, Avp, Ave, AuG _, hbm _, Atl, As9]) ⟨i + 1, v + 1, fr ++ [n.id], rfl, by omega, hfs.symm, by simp; omega, by simp [forget, get], by simp⟩
       ·rw [if_neg h0, List.append_nil] at hfs
        simp -dsimp (disch := first | assumption | omega) only [↓AsU, AsP, AsT, AsR, eq_self, forall_const, Nat.reduceLT, Nat.reduceEqDiff, Nat.reduceSub, Nat.reduceMul, Nat.reduceMod, Nat.reduceDiv, Nat.reducePow, UInt8.reduceToNat, Int.reduceEq, Int.reduceLT, Int.reduceLE, ↓reduceIte, Nat.reduceAdd, Int.reduceToNat, reduceCtorEq, Nat.reduceLeDiff, ↓Atd, hg, Atl, hcp]
        refine ABL (l.length - (i + 1)) 4 (by omega) (by simp) rfl (by simp [AyU, ACC, Avp, Ave, AuG _, hbm _, Atl, As9]) ⟨i + 1, v, fr, rfl, by omega, hfs.symm, by omega, rfl, rfl⟩
      ·have hi2 : i = l.length := by omega
       rw [hi2, List.take_length] at hfr
       have hK : ANn l [] fr (kids l []) := ⟨.nil, by rw [hfr]; exact hn.filter _, fun y => by rw [hfr]; simp [List.mem_filter], by simp⟩
       clear hi2 hfr hfl hi
       simp -dsimp (disch := first | assumption | omega) only [↓AsU, AsP, AsT, AsR, eq_self, forall_const, Nat.reduceLT, Nat.reduceEqDiff, Nat.reduceSub, Nat.reduceMul, Nat.reduceMod, Nat.reduceDiv, Nat.reducePow, UInt8.reduceToNat, Int.reduceEq, Int.reduceLT, Int.reduceLE, ↓reduceIte, Nat.reduceAdd, Int.reduceToNat, reduceCtorEq, Nat.reduceLeDiff, ↓Atd]
       -- coming free
       refine AtO (fun q e H => ∃ (d fr : List (List UInt8)) (es : List (List UInt8 × TV)) (off n v cp : Nat) (cs : List TV), q = l.length - d.length ∧ ANn l d fr (kids l d) ∧ (AIs es (kids l d) ∧ AA7 es) ∧ (cs.drop off).take fr.length = fr.map idT ∧ off + fr.length ≤ cs.length ∧ fr.length ≤ cp ∧
        e = [(0, .sl 22 (l.map ndT)), (4, .op 1 0 []), (7, .mp 2 0), (14, .os 20 3 v [] off fr.length cp), (17, i64 (d.length : Int))] ∧ H = [.mpo (.arr 20) (Atf l), AGz, .mpo (.arr 20) es, .obj v (.arr n 20 cs)]) l.length ?_ ?_
       ·exact ⟨[], fr, es, 0, fr.length, v, fr.length, fr.map idT, by simp, hK, ⟨hc, hbm⟩, by rw [List.drop_zero]; exact AvF rfl, by simp, by simp, rfl, rfl⟩
       ·clear hK hc h hbm
        rintro q e H ⟨d, fr, es, off, N, v, cp, cs, rfl, hK, ⟨hc, hbm⟩, hcs, hol, hcl, rfl, rfl⟩
        have hdl := hK.ord.le
        cases fr with
        | nil =>
         clear hcs hol hcl
         have hfin := hK.none hV
         by_cases hd : d.length = l.length
         ·have hok : GOk l := ⟨hV, hfin.1 hd⟩
          simp -dsimp (disch := first | assumption | omega) only [↓AsU, AsP, AsT, AsR, eq_self, forall_const, Nat.reduceLT, Nat.reduceEqDiff, Nat.reduceSub, Nat.reduceMul, Nat.reduceMod, Nat.reduceDiv, Nat.reducePow, UInt8.reduceToNat, Int.reduceEq, Int.reduceLT, Int.reduceLE, ↓reduceIte, Nat.reduceAdd, Int.reduceToNat, reduceCtorEq, Nat.reduceLeDiff, ↓Atd]
          exact ⟨fun _ => ⟨es, _, rfl⟩, fun hno => absurd hok hno⟩
         ·have hno : ¬ GOk l := fun hok => hd (hfin.2 hok.2)
          simp -dsimp (disch := first | assumption | omega) only [↓AsU, AsP, AsT, AsR, eq_self, forall_const, Nat.reduceLT, Nat.reduceEqDiff, Nat.reduceSub, Nat.reduceMul, Nat.reduceMod, Nat.reduceDiv, Nat.reducePow, UInt8.reduceToNat, Int.reduceEq, Int.reduceLT, Int.reduceLE, ↓reduceIte, Nat.reduceAdd, Int.reduceToNat, reduceCtorEq, Nat.reduceLeDiff, ↓Atd]
          exact ⟨fun hok => absurd hok hno, by simp⟩
        | cons x fr =>
         obtain ⟨hx1, hx2, hx3⟩ := (hK.free x).1 (by simp)
         obtain ⟨n, hnl, rfl⟩ := List.mem_map.1 hx1
         have hlook := AvD hn hnl
         obtain ⟨hc0, hcs⟩ := ATp hcs
         rw [As9] at hc0
         rw [List.length_cons] at hol hcl
         have hT := hK.take hV hnl
         have hd1 : d.length + 1 ≤ l.length := by have := hT.ord.le; simpa using this
         have hpi := hp n hnl
         replace hc : AIs es (fun y => kids l (d ++ [n.id]) y + n.ps.count y) := hc.congr fun y => (AKj hn hnl hx2 y).symm
         simp -dsimp (disch := first | assumption | omega) only [↓AsU, AsP, AsT, AsR, eq_self, forall_const, Nat.reduceLT, Nat.reduceEqDiff, Nat.reduceSub, Nat.reduceMul, Nat.reduceMod, Nat.reduceDiv, Nat.reducePow, UInt8.reduceToNat, Int.reduceEq, Int.reduceLT, Int.reduceLE, ↓reduceIte, Nat.reduceAdd, Int.reduceToNat, reduceCtorEq, Nat.reduceLeDiff, ↓Atd, hc0, hlook, Atl, Nat.add_zero]
         refine AtO (fun q e H => ∃ (k : Nat) (fr : List (List UInt8)) (es : List (List UInt8 × TV)) (f : List UInt8 → Nat) (off N v cp : Nat) (cs : List TV), q = n.ps.length - k ∧ k ≤ n.ps.length ∧ ANn l (d ++ [n.id]) fr f ∧ (∀ y, f y = kids l (d ++ [n.id]) y + (n.ps.drop k).count y) ∧ (AIs es f ∧ AA7 es) ∧
          (cs.drop off).take fr.length = fr.map idT ∧ off + fr.length ≤ cs.length ∧ fr.length ≤ cp ∧
          e = [(0, .sl 22 (l.map ndT)), (4, .op 1 0 []), (7, .mp 2 0), (14, .os 20 3 v [] off fr.length cp), (17, i64 (d.length : Int)), (121, .sl 20 (n.ps.map idT)), (122, i64 (n.ps.length : Int)), (123, i64 (k : Int))] ∧
          H = [.mpo (.arr 20) (Atf l), AGz, .mpo (.arr 20) es, .obj v (.arr N 20 cs), .obj 0 (ndT n)]) n.ps.length ?_ ?_
         ·exact ⟨0, fr, es, _, off + 1, N, v, cp - 1, cs, by simp, by simp, hT, by simp, ⟨hc, hbm⟩, hcs, by omega, by omega, rfl, by rw [Atl]⟩
         ·clear hc hbm hcs hol hcl hc0 hT hK
          rintro q e H ⟨k, fr, es, f, off, N, v, cp, cs, rfl, hk, hK, hf, ⟨hc, hbm⟩, hcs, hol, hcl, rfl, rfl⟩
          by_cases h2 : k < n.ps.length
          ·have hg2 : n.ps[k]? = some n.ps[k] := List.getElem?_eq_getElem h2
           have hdrop := List.drop_eq_getElem_cons h2
           have hpm := List.getElem_mem h2
           generalize n.ps[k] = p at *
           have hcp := hc p
           have hkp := hkb (d ++ [n.id]) p
           have hcnt : (n.ps.drop k).count p ≤ n.ps.length := Nat.le_trans List.count_le_length (by simp)
           have hfp := hf p
           have hf1 : 1 ≤ f p := by rw [hfp, hdrop]; simp; omega
           have hfr1 : fr.length ≤ l.length := by
            have := Awv hK.nodup (e := As7 l) fun y hy => ((hK.free y).1 hy).1
            simpa [As7] using this
           have hD := hK.drop (hV.there n hnl p hpm) (by omega)
           have hc' := hc.put p (f p - 1)
           have hf' : ∀ y, (if p = y then f p - 1 else f y) = kids l (d ++ [n.id]) y + (n.ps.drop (k + 1)).count y := by
            intro y
            have h9 := hf y
            rw [hdrop, List.count_cons] at h9
            by_cases e : p = y
            ·subst e; simp at h9 ⊢; omega
            ·simp [e] at h9 ⊢; omega
           by_cases h0 : f p = 1
           ·rw [if_pos h0] at hD
            rw [h0] at hcp hc'
            have hcp2 : (AwD p (AwJ p (i64 (((1 : Nat) - 1 : Nat) : Int)) es)).getD (i64 ((0 : Nat) : Int)) = i64 ((0 : Nat) : Int) := by rw [AO8, if_pos rfl]; rfl
            have hoff : (cs.drop off).take fr.length = fr.map idT := hcs
            simp -dsimp (disch := first | assumption | omega) only [↓AsU, AsP, AsT, AsR, eq_self, forall_const, Nat.reduceLT, Nat.reduceEqDiff, Nat.reduceSub, Nat.reduceMul, Nat.reduceMod, Nat.reduceDiv, Nat.reducePow, UInt8.reduceToNat, Int.reduceEq, Int.reduceLT, Int.reduceLE, ↓reduceIte, Nat.reduceAdd, Int.reduceToNat, reduceCtorEq, Nat.reduceLeDiff, ↓Atd, hg2, As9, hcp, hcp2, ABJ, Azz, hoff, AIP, AFd, AB2, pr1, pr2]
            have hc0 : AIs (AwJ p (i64 ((0 : Nat) : Int)) es) (fun y => if p = y then f p - 1 else f y) := by rw [h0]; exact hc'
            refine ABL (n.ps.length - (k + 1)) 5 (by omega) (by simp) rfl (by simp [AyU, ACC, Avp, Ave, AuG _, Atl, As9, (hbm.put (x := .val (.int .i64 0)) fun g => rfl) 5]) ⟨k + 1, fr ++ [p], AwJ p (i64 ((0 : Nat) : Int)) es, _, 0, fr.length + 1, v + 1, fr.length + 1, (fr ++ [p]).map idT, rfl, by omega, hD, hf', ⟨hc0, hbm.put fun g => rfl⟩, ?_, ?_, ?_, ?_, rfl⟩
            ·rw [List.drop_zero]; exact AvF rfl
            ·simp
            ·simp
            ·simp [forget, get]
           ·rw [if_neg h0] at hD
            have hcp2 : (AwD p (AwJ p (i64 ((f p - 1 : Nat) : Int)) es)).getD (i64 ((0 : Nat) : Int)) = i64 ((f p - 1 : Nat) : Int) := by rw [AO8, if_pos rfl]; rfl
            simp -dsimp (disch := first | assumption | omega) only [↓AsU, AsP, AsT, AsR, eq_self, forall_const, Nat.reduceLT, Nat.reduceEqDiff, Nat.reduceSub, Nat.reduceMul, Nat.reduceMod, Nat.reduceDiv, Nat.reducePow, UInt8.reduceToNat, Int.reduceEq, Int.reduceLT, Int.reduceLE, ↓reduceIte, Nat.reduceAdd, Int.reduceToNat, reduceCtorEq, Nat.reduceLeDiff, ↓Atd, hg2, As9, hcp, hcp2, AFd, AB2, pr1, pr2]
            refine ABL (n.ps.length - (k + 1)) 5 (by omega) (by simp) rfl (by simp [AyU, ACC, Avp, Ave, AuG _, Atl, As9, hol, (hbm.put (x := .val (.int .i64 ((f p - 1 : Nat) : Int))) fun g => rfl) 5]) ⟨k + 1, fr, _, _, off, N, v, cp, cs, rfl, by omega, hD, hf', ⟨hc', hbm.put fun g => rfl⟩, hcs, hol, hcl, rfl, rfl⟩
          ·have hk2 : k = n.ps.length := by omega
           rw [hk2, List.drop_length] at hf
           have hfe : ∀ y, kids l (d ++ [n.id]) y = f y := fun y => by rw [hf y]; simp
           simp -dsimp (disch := first | assumption | omega) only [↓AsU, AsP, AsT, AsR, eq_self, forall_const, Nat.reduceLT, Nat.reduceEqDiff, Nat.reduceSub, Nat.reduceMul, Nat.reduceMod, Nat.reduceDiv, Nat.reducePow, UInt8.reduceToNat, Int.reduceEq, Int.reduceLT, Int.reduceLE, ↓reduceIte, Nat.reduceAdd, Int.reduceToNat, reduceCtorEq, Nat.reduceLeDiff, ↓Atd]
           refine ABL (l.length - (d.length + 1)) 4 (by omega) (by simp) rfl (by simp [AyU, ACC, Avp, Ave, AuG _, hbm _, Atl, As9]) ⟨d ++ [n.id], fr, es, off, N, v, cp, cs, by simp, hK.congr hfe, ⟨hc.congr hfe, hbm⟩, hcs, hol, hcl, by simp [forget, get], rfl⟩
end Go.Proofs.YtingoaihnlhiaaaDoor


namespace Go.Proofs.YtingoaihnlhiaaaDoor
variable [Atj]
set_option linter.unusedSectionVars false
set_option linter.unusedVariables false
set_option linter.defProp false
set_option maxRecDepth 100000

def AzO : AsQ := .seq (.seq (.ops [mv_ 18 9,
  po_ 19 (.eqN 1 (.t 18) (.c .nilIface) true)] [4, 5, 8, 9, 19])
 (.cond (.t 19)
 (.seq (.ops [mv_ 20 9,
   po_ 6 (.mov (.c (.bool false))),
   mv_ 7 20] [6, 7])
  (.ret))
 (.skip)))
 (.seq (.sdraw 3 [mv_ 21 8,
  po_ 22 (.load true 20 (.t 4)),
  po_ 25 (.load true 20 (.t 5)),
  ⟨some 23, .s (.bslice 20 1 (.arr 20 1 [.val (.int .u8 ((0 : Nat) : Int)), .val (.int .u8 ((0 : Nat) : Int)), .val (.int .u8 ((0 : Nat) : Int)), .val (.int .u8 ((0 : Nat) : Int)), .val (.int .u8 ((0 : Nat) : Int)), .val (.int .u8 ((0 : Nat) : Int)), .val (.int .u8 ((0 : Nat) : Int)), .val (.int .u8 ((0 : Nat) : Int)), .val (.int .u8 ((0 : Nat) : Int)), .val (.int .u8 ((0 : Nat) : Int)), .val (.int .u8 ((0 : Nat) : Int)), .val (.int .u8 ((0 : Nat) : Int)), .val (.int .u8 ((0 : Nat) : Int)), .val (.int .u8 ((0 : Nat) : Int)), .val (.int .u8 ((0 : Nat) : Int)), .val (.int .u8 ((0 : Nat) : Int)), .val (.int .u8 ((0 : Nat) : Int)), .val (.int .u8 ((0 : Nat) : Int)), .val (.int .u8 ((0 : Nat) : Int)), .val (.int .u8 ((0 : Nat) : Int))]) [⟨0, .t 22⟩]), none⟩,
  so_ 24 (.call 21 [.t 21, .t 23]),
  so_ 26 (.call 25 [.t 24, .t 25]),
  mv_ 6 26,
  po_ 7 (.mov (.c .nilIface))] [6, 7])
 (.ret))
def AzV : AsQ := .seq (.opsZ [mv_ 11 0,
  po_ 12 (.load true 20 (.t 4)),
  po_ 13 (.load true 20 (.t 5)),
  ⟨some 14, .s (.bslice 20 2 (.arr 20 1 [.val (.int .u8 ((0 : Nat) : Int)), .val (.int .u8 ((0 : Nat) : Int)), .val (.int .u8 ((0 : Nat) : Int)), .val (.int .u8 ((0 : Nat) : Int)), .val (.int .u8 ((0 : Nat) : Int)), .val (.int .u8 ((0 : Nat) : Int)), .val (.int .u8 ((0 : Nat) : Int)), .val (.int .u8 ((0 : Nat) : Int)), .val (.int .u8 ((0 : Nat) : Int)), .val (.int .u8 ((0 : Nat) : Int)), .val (.int .u8 ((0 : Nat) : Int)), .val (.int .u8 ((0 : Nat) : Int)), .val (.int .u8 ((0 : Nat) : Int)), .val (.int .u8 ((0 : Nat) : Int)), .val (.int .u8 ((0 : Nat) : Int)), .val (.int .u8 ((0 : Nat) : Int)), .val (.int .u8 ((0 : Nat) : Int)), .val (.int .u8 ((0 : Nat) : Int)), .val (.int .u8 ((0 : Nat) : Int)), .val (.int .u8 ((0 : Nat) : Int))]) [⟨0, .t 12⟩, ⟨1, .t 13⟩]), none⟩] [14] [so_ 15 (.call 19 [.t 11, .t 14]),
  mv_ 10 15,
  po_ 16 (.ext 0 (.t 10)),
  po_ 17 (.ext 1 (.t 10)),
  mv_ 8 16,
  mv_ 9 17] [4, 5, 8, 9])
 AzO
def ADP : AsQ := .seq (.ops [so_ 4 (.box (.t 1)),
  so_ 5 (.box (.t 2)),
  po_ 6 (.mov (.c (.bool false))),
  po_ 7 (.mov (.c .nilIface))] [0, 4, 5])
 AzV
def ADK : List VR := [.tmp 6, .tmp 7]
theorem AI4 : Tryd.f13.body.bind (trC Tryd.prog Tryd.f13.ntmps) = some (er ADP) := by kernel_rfl
theorem AIx : trR Tryd.prog Tryd.f13.results.toList = some ADK := by kernel_rfl
def AEv := AsN AzO.eq_1
def AEs := AsN AzV.eq_1
def AHn := AsN ADP.eq_1
theorem AHQ {K : TV → Prop} {e : Env} {H : List Ob} : res ADK e H K = res [.tmp 6, .tmp 7] e H K := AsM rfl
def Avg := (And.intro (And.intro @AEv @AEs) (And.intro @AHn @AHQ))
def AIj := AvA 27 Tryd.func13 AI4 AIx rfl

def ACl : AsQ := .seq (.ops [so_ 35 (.nxtM (.t 34)),
  po_ 36 (.ext 0 (.t 35))] [8, 11, 12, 34, 36])
 (.seq (.cond (.t 36)
 (.skip)
 (.exit 0))
 (.block 1 (.seq (.ops [po_ 37 (.gen .entM [.t 34]),
  po_ 38 (.ext 0 (.t 37)),
  so_ 13 (.alloc (.arr 20 1 [.val (.int .u8 ((0 : Nat) : Int)), .val (.int .u8 ((0 : Nat) : Int)), .val (.int .u8 ((0 : Nat) : Int)), .val (.int .u8 ((0 : Nat) : Int)), .val (.int .u8 ((0 : Nat) : Int)), .val (.int .u8 ((0 : Nat) : Int)), .val (.int .u8 ((0 : Nat) : Int)), .val (.int .u8 ((0 : Nat) : Int)), .val (.int .u8 ((0 : Nat) : Int)), .val (.int .u8 ((0 : Nat) : Int)), .val (.int .u8 ((0 : Nat) : Int)), .val (.int .u8 ((0 : Nat) : Int)), .val (.int .u8 ((0 : Nat) : Int)), .val (.int .u8 ((0 : Nat) : Int)), .val (.int .u8 ((0 : Nat) : Int)), .val (.int .u8 ((0 : Nat) : Int)), .val (.int .u8 ((0 : Nat) : Int)), .val (.int .u8 ((0 : Nat) : Int)), .val (.int .u8 ((0 : Nat) : Int)), .val (.int .u8 ((0 : Nat) : Int))])),
  ⟨none, .s (.store 20 (.t 13) (.t 38)), none⟩] [8, 11, 12, 13, 34])
 (.seq (.ops [mv_ 39 11,
  po_ 40 (.load true 20 (.t 13)),
  so_ 41 (.call 25 [.t 39, .t 40])] [8, 11, 12, 13, 34, 41])
 (.cond (.t 41)
 (.ops [mv_ 42 12,
   po_ 43 (.load true 20 (.t 13)),
   ⟨some 44, .s (.bslice 20 1 (.arr 20 1 [.val (.int .u8 ((0 : Nat) : Int)), .val (.int .u8 ((0 : Nat) : Int)), .val (.int .u8 ((0 : Nat) : Int)), .val (.int .u8 ((0 : Nat) : Int)), .val (.int .u8 ((0 : Nat) : Int)), .val (.int .u8 ((0 : Nat) : Int)), .val (.int .u8 ((0 : Nat) : Int)), .val (.int .u8 ((0 : Nat) : Int)), .val (.int .u8 ((0 : Nat) : Int)), .val (.int .u8 ((0 : Nat) : Int)), .val (.int .u8 ((0 : Nat) : Int)), .val (.int .u8 ((0 : Nat) : Int)), .val (.int .u8 ((0 : Nat) : Int)), .val (.int .u8 ((0 : Nat) : Int)), .val (.int .u8 ((0 : Nat) : Int)), .val (.int .u8 ((0 : Nat) : Int)), .val (.int .u8 ((0 : Nat) : Int)), .val (.int .u8 ((0 : Nat) : Int)), .val (.int .u8 ((0 : Nat) : Int)), .val (.int .u8 ((0 : Nat) : Int))]) [⟨0, .t 43⟩]), none⟩,
   so_ 45 (.app 20 20 40 (.t 42) (.t 44)),
   mv_ 12 45] [8, 11, 12, 34])
 (.skip))))))
def ACg : AsQ := .block 0 (.own 12 20 (.loop [8, 11, 12, 34] ACl))
def ACk : AsQ := .seq (.ops [mv_ 46 8,
  mv_ 47 12,
  so_ 48 (.call 33 [.t 46, .t 47]),
  mv_ 6 48,
  po_ 7 (.mov (.c .nilIface))] [6, 7])
 (.ret)
def ACi : AsQ := .seq (.seq (.ops [mv_ 33 10,
  so_ 34 (.rngM (.t 33))] [8, 11, 12, 34])
 ACg)
 ACk
def AyJ : AsQ := .seq (.ops [po_ 12 (.mov (.c (.slice none 0 0)))] [8, 10, 11, 12])
 ACi
def ACb : AsQ := .seq (.sdraw 6 [mv_ 25 8,
  po_ 26 (.load true 20 (.t 4)),
  ⟨some 27, .p (.bsl 20 1 (.arr 20 1 [.val (.int .u8 ((0 : Nat) : Int)), .val (.int .u8 ((0 : Nat) : Int)), .val (.int .u8 ((0 : Nat) : Int)), .val (.int .u8 ((0 : Nat) : Int)), .val (.int .u8 ((0 : Nat) : Int)), .val (.int .u8 ((0 : Nat) : Int)), .val (.int .u8 ((0 : Nat) : Int)), .val (.int .u8 ((0 : Nat) : Int)), .val (.int .u8 ((0 : Nat) : Int)), .val (.int .u8 ((0 : Nat) : Int)), .val (.int .u8 ((0 : Nat) : Int)), .val (.int .u8 ((0 : Nat) : Int)), .val (.int .u8 ((0 : Nat) : Int)), .val (.int .u8 ((0 : Nat) : Int)), .val (.int .u8 ((0 : Nat) : Int)), .val (.int .u8 ((0 : Nat) : Int)), .val (.int .u8 ((0 : Nat) : Int)), .val (.int .u8 ((0 : Nat) : Int)), .val (.int .u8 ((0 : Nat) : Int)), .val (.int .u8 ((0 : Nat) : Int))]) [⟨0, .t 26⟩]), none⟩,
  mv_ 29 8,
  po_ 30 (.load true 20 (.t 5)),
  ⟨some 31, .p (.bsl 20 1 (.arr 20 1 [.val (.int .u8 ((0 : Nat) : Int)), .val (.int .u8 ((0 : Nat) : Int)), .val (.int .u8 ((0 : Nat) : Int)), .val (.int .u8 ((0 : Nat) : Int)), .val (.int .u8 ((0 : Nat) : Int)), .val (.int .u8 ((0 : Nat) : Int)), .val (.int .u8 ((0 : Nat) : Int)), .val (.int .u8 ((0 : Nat) : Int)), .val (.int .u8 ((0 : Nat) : Int)), .val (.int .u8 ((0 : Nat) : Int)), .val (.int .u8 ((0 : Nat) : Int)), .val (.int .u8 ((0 : Nat) : Int)), .val (.int .u8 ((0 : Nat) : Int)), .val (.int .u8 ((0 : Nat) : Int)), .val (.int .u8 ((0 : Nat) : Int)), .val (.int .u8 ((0 : Nat) : Int)), .val (.int .u8 ((0 : Nat) : Int)), .val (.int .u8 ((0 : Nat) : Int)), .val (.int .u8 ((0 : Nat) : Int)), .val (.int .u8 ((0 : Nat) : Int))]) [⟨0, .t 30⟩]), none⟩,
  so_ 28 (.call 21 [.t 25, .t 27]),
  so_ 32 (.call 21 [.t 29, .t 31]),
  mv_ 10 28,
  mv_ 11 32] [8, 10, 11])
 AyJ
def ACJ : AsQ := .seq (.seq (.ops [mv_ 22 9,
  po_ 23 (.eqN 1 (.t 22) (.c .nilIface) true)] [4, 5, 8, 9, 23])
 (.cond (.t 23)
 (.seq (.ops [mv_ 24 9,
   po_ 6 (.mov (.c (.slice none 0 0))),
   mv_ 7 24] [6, 7])
  (.ret))
 (.skip)))
 ACb
def ACU : AsQ := .seq (.opsZ [mv_ 15 0,
  po_ 16 (.load true 20 (.t 4)),
  po_ 17 (.load true 20 (.t 5)),
  ⟨some 18, .s (.bslice 20 2 (.arr 20 1 [.val (.int .u8 ((0 : Nat) : Int)), .val (.int .u8 ((0 : Nat) : Int)), .val (.int .u8 ((0 : Nat) : Int)), .val (.int .u8 ((0 : Nat) : Int)), .val (.int .u8 ((0 : Nat) : Int)), .val (.int .u8 ((0 : Nat) : Int)), .val (.int .u8 ((0 : Nat) : Int)), .val (.int .u8 ((0 : Nat) : Int)), .val (.int .u8 ((0 : Nat) : Int)), .val (.int .u8 ((0 : Nat) : Int)), .val (.int .u8 ((0 : Nat) : Int)), .val (.int .u8 ((0 : Nat) : Int)), .val (.int .u8 ((0 : Nat) : Int)), .val (.int .u8 ((0 : Nat) : Int)), .val (.int .u8 ((0 : Nat) : Int)), .val (.int .u8 ((0 : Nat) : Int)), .val (.int .u8 ((0 : Nat) : Int)), .val (.int .u8 ((0 : Nat) : Int)), .val (.int .u8 ((0 : Nat) : Int)), .val (.int .u8 ((0 : Nat) : Int))]) [⟨0, .t 16⟩, ⟨1, .t 17⟩]), none⟩] [18] [so_ 19 (.call 19 [.t 15, .t 18]),
  mv_ 14 19,
  po_ 20 (.ext 0 (.t 14)),
  po_ 21 (.ext 1 (.t 14)),
  mv_ 8 20,
  mv_ 9 21] [4, 5, 8, 9])
 ACJ
def AGT : AsQ := .seq (.ops [so_ 4 (.box (.t 1)),
  so_ 5 (.box (.t 2)),
  po_ 6 (.mov (.c (.slice none 0 0))),
  po_ 7 (.mov (.c .nilIface))] [0, 4, 5])
 ACU
def ABq : List VR := [.tmp 6, .tmp 7]
theorem AKG : Tryd.f15.body.bind (trC Tryd.prog Tryd.f15.ntmps) = some (er AGT) := by kernel_rfl
theorem AKq : trR Tryd.prog Tryd.f15.results.toList = some ABq := by kernel_rfl
def AGZ := AsN ACl.eq_1
def AGg := AsN ACg.eq_1
def AGD := AsN ACk.eq_1
def AFK := AsN ACi.eq_1
def AF8 := AsN AyJ.eq_1
def AzT := AsN ACb.eq_1
def AzU := AsN ACJ.eq_1
def Aw5 := AsN ACU.eq_1
def Aze := AsN AGT.eq_1
theorem ADF {K : TV → Prop} {e : Env} {H : List Ob} : res ABq e H K = res [.tmp 6, .tmp 7] e H K := AsM rfl
def At9 := (And.intro (And.intro (And.intro (And.intro @AGZ @AGg) (And.intro @AGD @AFK)) (And.intro (And.intro @AF8 @AzT) (And.intro @AzU @Aw5))) (And.intro @Aze @ADF))
def AJe := AvA 49 Tryd.func15 AKG AKq rfl

def AAD : AsQ := .seq (.ops [mv_ 9 0,
  mv_ 10 1,
  so_ 11 (.call 19 [.t 9, .t 10]),
  mv_ 8 11,
  po_ 12 (.ext 0 (.t 8)),
  po_ 13 (.ext 1 (.t 8)),
  mv_ 6 12,
  mv_ 7 13] [1, 6, 7])
 (.seq (.seq (.ops [mv_ 14 7,
  po_ 15 (.eqN 1 (.t 14) (.c .nilIface) true)] [1, 6, 7, 15])
 (.cond (.t 15)
 (.seq (.ops [mv_ 16 7,
   po_ 4 (.mov (.c (.slice none 0 0))),
   mv_ 5 16] [4, 5])
  (.ret))
 (.skip)))
 (.seq (.ops [mv_ 17 6,
  mv_ 18 1,
  so_ 19 (.call 33 [.t 17, .t 18]),
  mv_ 4 19,
  po_ 5 (.mov (.c .nilIface))] [4, 5])
 (.ret)))
def AEE : AsQ := .seq (.ops [po_ 4 (.mov (.c (.slice none 0 0))),
  po_ 5 (.mov (.c .nilIface))] [0, 1])
 AAD
def AEH : List VR := [.tmp 4, .tmp 5]
theorem AJf : Tryd.f17.body.bind (trC Tryd.prog Tryd.f17.ntmps) = some (er AEE) := by kernel_rfl
theorem AJv : trR Tryd.prog Tryd.f17.results.toList = some AEH := by kernel_rfl
def AFb := AsN AAD.eq_1
def AIg := AsN AEE.eq_1
theorem AIl {K : TV → Prop} {e : Env} {H : List Ob} : res AEH e H K = res [.tmp 4, .tmp 5] e H K := AsM rfl
def Av2 := (And.intro (And.intro @AFb @AIg) @AIl)
def AIU := AvA 20 Tryd.func17 AJf AJv rfl

def AFV : AsQ := .seq (.seq (.ops [mv_ 13 7,
  po_ 14 (.eqN 1 (.t 13) (.c .nilIface) false),
  mv_ 15 14,
  ⟨some 16, .p (.mov (.t 6)), some ⟨15, true⟩⟩,
  ⟨some 17, .p (.mov (.t 1)), some ⟨15, true⟩⟩,
  ⟨some 18, .s (.call 36 [.t 16, .t 17]), some ⟨15, true⟩⟩,
  ⟨some 19, .p (.un .not (.t 18)), some ⟨15, true⟩⟩,
  po_ 20 (.pick (.t 15) (.t 19) (.c (.bool false)))] [6, 7, 20])
 (.cond (.t 20)
 (.ops [po_ 21 (.iface 36 (ci_ 80)),
   mv_ 7 21] [6, 7])
 (.skip)))
 (.seq (.ops [mv_ 22 6,
  mv_ 23 7,
  mv_ 4 22,
  mv_ 5 23] [4, 5])
 (.ret))
def AF9 : AsQ := .seq (.ops [mv_ 9 0,
  so_ 10 (.call 35 [.t 9]),
  mv_ 8 10,
  po_ 11 (.ext 0 (.t 8)),
  po_ 12 (.ext 1 (.t 8)),
  mv_ 6 11,
  mv_ 7 12] [1, 6, 7])
 AFV
def AJP : AsQ := .seq (.ops [po_ 4 (.mov (.c (.pointer none))),
  po_ 5 (.mov (.c .nilIface))] [0, 1])
 AF9
def AJC : List VR := [.tmp 4, .tmp 5]
theorem AOL : Tryd.f19.body.bind (trC Tryd.prog Tryd.f19.ntmps) = some (er AJP) := by kernel_rfl
theorem AOF : trR Tryd.prog Tryd.f19.results.toList = some AJC := by kernel_rfl
def AIw := AsN AFV.eq_1
def AI8 := AsN AF9.eq_1
def AK6 := AsN AJP.eq_1
theorem AK8 {K : TV → Prop} {e : Env} {H : List Ob} : res AJC e H K = res [.tmp 4, .tmp 5] e H K := AsM rfl
def ABm := (And.intro (And.intro @AIw @AI8) (And.intro @AK6 @AK8))
def AMi := AvA 24 Tryd.func19 AOL AOF rfl

def Axz : AsQ := .seq (.ops [mv_ 29 5,
  po_ 30 (.load true 20 (.t 7)),
  po_ 31 (.build [] [] []),
  ⟨none, .s (.mupd (.arr 20) (.t 29) (.t 30) (.t 31)), none⟩] [0, 5, 6, 7])
 (.draw 5 [mv_ 32 6,
  mv_ 33 0,
  po_ 34 (.nilc (.t 33)),
  po_ 35 (.fieldA 0 0 (.t 34)),
  po_ 36 (.load false 1 (.t 35)),
  po_ 37 (.load true 20 (.t 7)),
  po_ 38 (.gen (.look (.arr 20) (.agg [.arr 20 1 [.val (.int .u8 ((0 : Nat) : Int)), .val (.int .u8 ((0 : Nat) : Int)), .val (.int .u8 ((0 : Nat) : Int)), .val (.int .u8 ((0 : Nat) : Int)), .val (.int .u8 ((0 : Nat) : Int)), .val (.int .u8 ((0 : Nat) : Int)), .val (.int .u8 ((0 : Nat) : Int)), .val (.int .u8 ((0 : Nat) : Int)), .val (.int .u8 ((0 : Nat) : Int)), .val (.int .u8 ((0 : Nat) : Int)), .val (.int .u8 ((0 : Nat) : Int)), .val (.int .u8 ((0 : Nat) : Int)), .val (.int .u8 ((0 : Nat) : Int)), .val (.int .u8 ((0 : Nat) : Int)), .val (.int .u8 ((0 : Nat) : Int)), .val (.int .u8 ((0 : Nat) : Int)), .val (.int .u8 ((0 : Nat) : Int)), .val (.int .u8 ((0 : Nat) : Int)), .val (.int .u8 ((0 : Nat) : Int)), .val (.int .u8 ((0 : Nat) : Int))], .val (.slice none 0 0), .val (.int .i64 ((0 : Nat) : Int))]) false) [.t 36, .t 37]),
  po_ 39 (.field false 1 1 20 (.t 38)),
  so_ 40 (.app 20 20 40 (.t 32) (.t 39)),
  mv_ 6 40] [0, 5, 6])
def AxJ : AsQ := .cond (.t 28)
 Axz
 (.skip)
def AxB : AsQ := .seq (.ops [mv_ 25 5,
  po_ 26 (.load true 20 (.t 7)),
  so_ 27 (.call 25 [.t 25, .t 26]),
  po_ 28 (.un .not (.t 27))] [0, 5, 6, 7, 28])
 AxJ
def AxI : AsQ := .seq (.ops [mv_ 20 6,
  mv_ 21 6,
  po_ 22 (.lenV (.t 21)),
  po_ 23 (.bin 3 .sub (.t 22) (ci_ 1)),
  po_ 24 (.slV 20 (.t 20) none (some (.t 23))),
  mv_ 6 24] [0, 5, 6, 7])
 AxB
def AxL : AsQ := .block 1 (.seq (.ops [mv_ 14 6,
  mv_ 15 6,
  po_ 16 (.lenV (.t 15)),
  po_ 17 (.bin 3 .sub (.t 16) (ci_ 1)),
  po_ 18 (.idxA 20 (.t 14) (.t 17)),
  po_ 19 (.load true 20 (.t 18)),
  so_ 7 (.alloc (.arr 20 1 [.val (.int .u8 ((0 : Nat) : Int)), .val (.int .u8 ((0 : Nat) : Int)), .val (.int .u8 ((0 : Nat) : Int)), .val (.int .u8 ((0 : Nat) : Int)), .val (.int .u8 ((0 : Nat) : Int)), .val (.int .u8 ((0 : Nat) : Int)), .val (.int .u8 ((0 : Nat) : Int)), .val (.int .u8 ((0 : Nat) : Int)), .val (.int .u8 ((0 : Nat) : Int)), .val (.int .u8 ((0 : Nat) : Int)), .val (.int .u8 ((0 : Nat) : Int)), .val (.int .u8 ((0 : Nat) : Int)), .val (.int .u8 ((0 : Nat) : Int)), .val (.int .u8 ((0 : Nat) : Int)), .val (.int .u8 ((0 : Nat) : Int)), .val (.int .u8 ((0 : Nat) : Int)), .val (.int .u8 ((0 : Nat) : Int)), .val (.int .u8 ((0 : Nat) : Int)), .val (.int .u8 ((0 : Nat) : Int)), .val (.int .u8 ((0 : Nat) : Int))])),
  ⟨none, .s (.store 20 (.t 7) (.t 19)), none⟩] [0, 5, 6, 7])
 AxI)
def Avs : AsQ := .seq (.seq (.ops [mv_ 11 6,
  po_ 12 (.lenV (.t 11)),
  po_ 13 (.bin 3 .gtr (.t 12) (ci_ 0))] [0, 5, 6, 13])
 (.cond (.t 13)
 (.skip)
 (.exit 0)))
 AxL
def Avr : AsQ := .seq (.ops [mv_ 41 5,
  mv_ 4 41] [4])
 (.ret)
def AxK : AsQ := .seq (.block 0 (.own 6 20 (.loop [0, 5, 6] Avs)))
 Avr
def Axw : AsQ := .seq (.ops [mv_ 9 1,
  so_ 10 (.call 38 [.t 9]),
  mv_ 6 10] [0, 5, 6])
 AxK
def Aw1 : AsQ := .seq (.ops [so_ 8 (.mkm (.arr 20) none),
  mv_ 5 8] [0, 1, 5])
 Axw
def Azq : AsQ := .seq (.ops [po_ 4 (.mov (.c (.map none)))] [0, 1])
 Aw1
def Awg : List VR := [.tmp 4]
theorem AFD : Tryd.f21.body.bind (trC Tryd.prog Tryd.f21.ntmps) = some (er Azq) := by kernel_rfl
theorem AFk : trR Tryd.prog Tryd.f21.results.toList = some Awg := by kernel_rfl
def AAL := AsN Axz.eq_1
def AA0 := AsN AxJ.eq_1
def AAV := AsN AxB.eq_1
def AAB := AsN AxI.eq_1
def AAC := AsN AxL.eq_1
def AA9 := AsN Avs.eq_1
def ABa := AsN Avr.eq_1
def AAW := AsN AxK.eq_1
def AAQ := AsN Axw.eq_1
def AAd := AsN Aw1.eq_1
def ADw := AsN Azq.eq_1
theorem ADJ {K : TV → Prop} {e : Env} {H : List Ob} : res Awg e H K = res [.tmp 4] e H K := AsM rfl
def Att := (And.intro (And.intro (And.intro (And.intro @AAL @AA0) (And.intro @AAV @AAB)) (And.intro (And.intro @AAC @AA9) (And.intro @ABa @AAW))) (And.intro (And.intro @AAQ @AAd) (And.intro @ADw @ADJ)))
def AEz := AvA 42 Tryd.func21 AFD AFk rfl

def Aw3 : AsQ := .seq (.block 1 (.seq (.ops [po_ 19 (.idxA 20 (.t 15) (.t 17)),
  po_ 20 (.load true 20 (.t 19)),
  so_ 7 (.alloc (.arr 20 1 [.val (.int .u8 ((0 : Nat) : Int)), .val (.int .u8 ((0 : Nat) : Int)), .val (.int .u8 ((0 : Nat) : Int)), .val (.int .u8 ((0 : Nat) : Int)), .val (.int .u8 ((0 : Nat) : Int)), .val (.int .u8 ((0 : Nat) : Int)), .val (.int .u8 ((0 : Nat) : Int)), .val (.int .u8 ((0 : Nat) : Int)), .val (.int .u8 ((0 : Nat) : Int)), .val (.int .u8 ((0 : Nat) : Int)), .val (.int .u8 ((0 : Nat) : Int)), .val (.int .u8 ((0 : Nat) : Int)), .val (.int .u8 ((0 : Nat) : Int)), .val (.int .u8 ((0 : Nat) : Int)), .val (.int .u8 ((0 : Nat) : Int)), .val (.int .u8 ((0 : Nat) : Int)), .val (.int .u8 ((0 : Nat) : Int)), .val (.int .u8 ((0 : Nat) : Int)), .val (.int .u8 ((0 : Nat) : Int)), .val (.int .u8 ((0 : Nat) : Int))])),
  ⟨none, .s (.store 20 (.t 7) (.t 20)), none⟩] [0, 1, 5, 7, 15, 16, 17])
 (.draw 5 [mv_ 21 5,
  mv_ 22 0,
  po_ 23 (.nilc (.t 22)),
  po_ 24 (.fieldA 0 0 (.t 23)),
  po_ 25 (.load false 1 (.t 24)),
  po_ 26 (.load true 20 (.t 7)),
  po_ 27 (.gen (.look (.arr 20) (.agg [.arr 20 1 [.val (.int .u8 ((0 : Nat) : Int)), .val (.int .u8 ((0 : Nat) : Int)), .val (.int .u8 ((0 : Nat) : Int)), .val (.int .u8 ((0 : Nat) : Int)), .val (.int .u8 ((0 : Nat) : Int)), .val (.int .u8 ((0 : Nat) : Int)), .val (.int .u8 ((0 : Nat) : Int)), .val (.int .u8 ((0 : Nat) : Int)), .val (.int .u8 ((0 : Nat) : Int)), .val (.int .u8 ((0 : Nat) : Int)), .val (.int .u8 ((0 : Nat) : Int)), .val (.int .u8 ((0 : Nat) : Int)), .val (.int .u8 ((0 : Nat) : Int)), .val (.int .u8 ((0 : Nat) : Int)), .val (.int .u8 ((0 : Nat) : Int)), .val (.int .u8 ((0 : Nat) : Int)), .val (.int .u8 ((0 : Nat) : Int)), .val (.int .u8 ((0 : Nat) : Int)), .val (.int .u8 ((0 : Nat) : Int)), .val (.int .u8 ((0 : Nat) : Int))], .val (.slice none 0 0), .val (.int .i64 ((0 : Nat) : Int))]) false) [.t 25, .t 26]),
  po_ 28 (.field false 1 1 20 (.t 27)),
  so_ 29 (.app 20 20 40 (.t 21) (.t 28)),
  mv_ 5 29] [0, 1, 5, 15, 16, 17])))
 (.ops [po_ 30 (.bin 3 .add (.t 17) (ci_ 1)),
  mv_ 17 30] [0, 1, 5, 15, 16, 17])
def Axn : AsQ := .seq (.cond (.t 18)
 (.skip)
 (.exit 0))
 Aw3
def Aw0 : AsQ := .seq (.ops [po_ 18 (.bin 3 .lss (.t 17) (.t 16))] [0, 1, 5, 15, 16, 17, 18])
 Axn
def Axb : AsQ := .block 0 (.own 5 20 (.loop [0, 1, 5, 15, 16, 17] Aw0))
def Axc : AsQ := .seq (.ops [mv_ 31 0,
  mv_ 32 5,
  so_ 33 (.call 21 [.t 31, .t 32]),
  mv_ 8 33] [1, 8])
 (.seq (.ops [mv_ 34 1,
  mv_ 35 8,
  po_ 36 (.mkf (.func 25) [.t 35] []),
  so_ 37 (.call 49 [.t 34, .t 36]),
  mv_ 4 37] [4])
 (.ret))
def Aw9 : AsQ := .seq (.seq (.ops [mv_ 15 1,
  po_ 16 (.lenV (.t 15)),
  po_ 17 (.mov (ci_ 0))] [0, 1, 5, 15, 16, 17])
 Axb)
 Axc
def At8 : AsQ := .seq (.ops [po_ 5 (.mov (.c (.slice none 0 0)))] [0, 1, 5])
 Aw9
def Aw2 : AsQ := .seq (.ops [mv_ 13 1,
  so_ 14 (.call 48 [.t 13]),
  mv_ 1 14] [0, 1])
 At8
def Axa : AsQ := .seq (.ops [mv_ 11 1,
  so_ 12 (.call 45 [.t 11, .c (.func (.func 46) #[] #[])])] [0, 1])
 Aw2
def AwC : AsQ := .seq (.ops [mv_ 9 1,
  so_ 10 (.call 38 [.t 9]),
  mv_ 1 10] [0, 1])
 Axa
def AyQ : AsQ := .seq (.ops [po_ 4 (.mov (.c (.slice none 0 0)))] [0, 1])
 AwC
def Avc : List VR := [.tmp 4]
theorem AEq : Tryd.f33.body.bind (trC Tryd.prog Tryd.f33.ntmps) = some (er AyQ) := by kernel_rfl
theorem AEo : trR Tryd.prog Tryd.f33.results.toList = some Avc := by kernel_rfl
def AAj := AsN Aw3.eq_1
def AAh := AsN Axn.eq_1
def AAm := AsN Aw0.eq_1
def AAc := AsN Axb.eq_1
def AAf := AsN Axc.eq_1
def AAg := AsN Aw9.eq_1
def AAl := AsN At8.eq_1
def Au0 := AsN Aw2.eq_1
def AuZ := AsN Axa.eq_1
def AuF := AsN AwC.eq_1
def ADb := AsN AyQ.eq_1
theorem AC4 {K : TV → Prop} {e : Env} {H : List Ob} : res Avc e H K = res [.tmp 4] e H K := AsM rfl
def Atc := (And.intro (And.intro (And.intro (And.intro @AAj @AAh) (And.intro @AAm @AAc)) (And.intro (And.intro @AAf @AAg) (And.intro @AAl @Au0))) (And.intro (And.intro @AuZ @AuF) (And.intro @ADb @AC4)))
def ADk := AvA 38 Tryd.func33 AEq AEo rfl

def ADY : AsQ := .seq (.ops [so_ 3 (.box (.t 1)),
  po_ 4 (.mov (.c (.bool false)))] [0, 3])
 (.seq (.ops [mv_ 8 0,
  po_ 9 (.load true 20 (.t 3)),
  po_ 10 (.gen (.look (.arr 20) (.agg []) true) [.t 8, .t 9]),
  mv_ 7 10,
  po_ 11 (.ext 0 (.t 7)),
  po_ 12 (.ext 1 (.t 7)),
  so_ 5 (.alloc (.agg [])),
  ⟨none, .s (.store 0 (.t 5) (.t 11)), none⟩,
  mv_ 6 12] [6])
 (.seq (.ops [mv_ 13 6,
  mv_ 4 13] [4])
 (.ret)))
def ADL : List VR := [.tmp 4]
theorem AIX : Tryd.f25.body.bind (trC Tryd.prog Tryd.f25.ntmps) = some (er ADY) := by kernel_rfl
theorem AI7 : trR Tryd.prog Tryd.f25.results.toList = some ADL := by kernel_rfl
def AHf := AsN ADY.eq_1
theorem AHc {K : TV → Prop} {e : Env} {H : List Ob} : res ADL e H K = res [.tmp 4] e H K := AsM rfl
def Axl := (And.intro @AHf @AHc)
def ACx := AvA 14 Tryd.func25 AIX AI7 rfl

def Azn : AsQ := .seq (.ops [so_ 2 (.box (.t 0)),
  po_ 4 (.mov (.c (.bool false)))] [1, 2])
 (.seq (.ops [mv_ 5 1,
  po_ 6 (.mkf (.func 51) [] [.t 2]),
  so_ 7 (.call 50 [.t 5, .t 6]),
  po_ 8 (.un .not (.t 7)),
  mv_ 4 8] [4])
 (.ret))
def Azg : List VR := [.tmp 4]
theorem AEX : Tryd.f36.body.bind (trC Tryd.prog Tryd.f36.ntmps) = some (er Azn) := by kernel_rfl
theorem AEZ : trR Tryd.prog Tryd.f36.results.toList = some Azg := by kernel_rfl
def ADH := AsN Azn.eq_1
theorem ADo {K : TV → Prop} {e : Env} {H : List Ob} : res Azg e H K = res [.tmp 4] e H K := AsM rfl
def Azm := (And.intro @ADH @ADo)
def AEw := AvA 9 Tryd.func36 AEX AEZ rfl

def AwQ : AsQ := .seq (.draw 9 [po_ 7 (.load false 1 (.t 1)),
  po_ 8 (.nilc (.t 7)),
  po_ 9 (.fieldA 0 0 (.t 8)),
  po_ 10 (.load false 1 (.t 9)),
  po_ 11 (.load true 20 (.t 2)),
  po_ 12 (.gen (.look (.arr 20) (.agg [.arr 20 1 [.val (.int .u8 ((0 : Nat) : Int)), .val (.int .u8 ((0 : Nat) : Int)), .val (.int .u8 ((0 : Nat) : Int)), .val (.int .u8 ((0 : Nat) : Int)), .val (.int .u8 ((0 : Nat) : Int)), .val (.int .u8 ((0 : Nat) : Int)), .val (.int .u8 ((0 : Nat) : Int)), .val (.int .u8 ((0 : Nat) : Int)), .val (.int .u8 ((0 : Nat) : Int)), .val (.int .u8 ((0 : Nat) : Int)), .val (.int .u8 ((0 : Nat) : Int)), .val (.int .u8 ((0 : Nat) : Int)), .val (.int .u8 ((0 : Nat) : Int)), .val (.int .u8 ((0 : Nat) : Int)), .val (.int .u8 ((0 : Nat) : Int)), .val (.int .u8 ((0 : Nat) : Int)), .val (.int .u8 ((0 : Nat) : Int)), .val (.int .u8 ((0 : Nat) : Int)), .val (.int .u8 ((0 : Nat) : Int)), .val (.int .u8 ((0 : Nat) : Int))], .val (.slice none 0 0), .val (.int .i64 ((0 : Nat) : Int))]) true) [.t 10, .t 11]),
  mv_ 6 12,
  po_ 13 (.ext 0 (.t 6)),
  po_ 14 (.ext 1 (.t 6)),
  so_ 4 (.alloc (.agg [.arr 20 1 [.val (.int .u8 ((0 : Nat) : Int)), .val (.int .u8 ((0 : Nat) : Int)), .val (.int .u8 ((0 : Nat) : Int)), .val (.int .u8 ((0 : Nat) : Int)), .val (.int .u8 ((0 : Nat) : Int)), .val (.int .u8 ((0 : Nat) : Int)), .val (.int .u8 ((0 : Nat) : Int)), .val (.int .u8 ((0 : Nat) : Int)), .val (.int .u8 ((0 : Nat) : Int)), .val (.int .u8 ((0 : Nat) : Int)), .val (.int .u8 ((0 : Nat) : Int)), .val (.int .u8 ((0 : Nat) : Int)), .val (.int .u8 ((0 : Nat) : Int)), .val (.int .u8 ((0 : Nat) : Int)), .val (.int .u8 ((0 : Nat) : Int)), .val (.int .u8 ((0 : Nat) : Int)), .val (.int .u8 ((0 : Nat) : Int)), .val (.int .u8 ((0 : Nat) : Int)), .val (.int .u8 ((0 : Nat) : Int)), .val (.int .u8 ((0 : Nat) : Int))], .val (.slice none 0 0), .val (.int .i64 ((0 : Nat) : Int))])),
  ⟨none, .s (.store 22 (.t 4) (.t 13)), none⟩,
  mv_ 5 14] [5])
 (.seq (.ops [mv_ 15 5,
  po_ 16 (.un .not (.t 15)),
  mv_ 3 16] [3])
 (.ret))
def AyG : AsQ := .seq (.ops [so_ 2 (.box (.t 0)),
  po_ 3 (.mov (.c (.bool false)))] [1, 2])
 AwQ
def Ax4 : List VR := [.tmp 3]
theorem ADt : Tryd.f51.body.bind (trC Tryd.prog Tryd.f51.ntmps) = some (er AyG) := by kernel_rfl
theorem ADU : trR Tryd.prog Tryd.f51.results.toList = some Ax4 := by kernel_rfl
def AzJ := AsN AwQ.eq_1
def ABt := AsN AyG.eq_1
theorem AB5 {K : TV → Prop} {e : Env} {H : List Ob} : res Ax4 e H K = res [.tmp 3] e H K := AsM rfl
def Aye := (And.intro (And.intro @AzJ @ABt) @AB5)
def ACY := AvA 17 Tryd.func51 ADt ADU rfl







def AEM : AsQ := .seq (.block 1 (.seq (.draw 4 [mv_ 17 0,
  mv_ 18 5,
  po_ 19 (.idxA 20 (.t 17) (.t 18)),
  po_ 20 (.load true 20 (.t 19)),
  mv_ 21 1,
  mv_ 22 5,
  po_ 23 (.idxA 20 (.t 21) (.t 22)),
  po_ 24 (.load true 20 (.t 23)),
  po_ 25 (.gen (.eqA 20 true) [.t 20, .t 24])] [0, 1, 5, 25])
 (.cond (.t 25)
 (.seq (.ops [po_ 4 (.mov (.c (.bool false)))] [4])
  (.ret))
 (.skip))))
 (.ops [mv_ 15 5,
  po_ 16 (.bin 3 .add (.t 15) (ci_ 1)),
  mv_ 5 16] [0, 1, 5])
def AEJ : AsQ := .seq (.seq (.ops [mv_ 11 5,
  mv_ 12 0,
  po_ 13 (.lenV (.t 12)),
  po_ 14 (.bin 3 .lss (.t 11) (.t 13))] [0, 1, 5, 14])
 (.cond (.t 14)
 (.skip)
 (.exit 0)))
 AEM
def AEF : AsQ := .block 0 (.loop [0, 1, 5] AEJ)
def AEN : AsQ := .seq (.ops [po_ 4 (.mov (.c (.bool true)))] [4])
 (.ret)
def AEL : AsQ := .seq (.seq (.ops [po_ 5 (.mov (ci_ 0))] [0, 1, 5])
 AEF)
 AEN
def AEG : AsQ := .seq (.seq (.ops [mv_ 6 0,
  po_ 7 (.lenV (.t 6)),
  mv_ 8 1,
  po_ 9 (.lenV (.t 8)),
  po_ 10 (.bin 3 .neq (.t 7) (.t 9))] [0, 1, 10])
 (.cond (.t 10)
 (.seq (.ops [po_ 4 (.mov (.c (.bool false)))] [4])
  (.ret))
 (.skip)))
 AEL
def AIT : AsQ := .seq (.ops [po_ 4 (.mov (.c (.bool false)))] [0, 1])
 AEG
def AIV : List VR := [.tmp 4]
theorem AL9 : Tryd.f11.body.bind (trC Tryd.prog Tryd.f11.ntmps) = some (er AIT) := by kernel_rfl
theorem AMU : trR Tryd.prog Tryd.f11.results.toList = some AIV := by kernel_rfl
def AId := AsN AEM.eq_1
def AIa := AsN AEJ.eq_1
def AH8 := AsN AEF.eq_1
def AIc := AsN AEN.eq_1
def AIf := AsN AEL.eq_1
def AH9 := AsN AEG.eq_1
def AKk := AsN AIT.eq_1
theorem AKv {K : TV → Prop} {e : Env} {H : List Ob} : res AIV e H K = res [.tmp 4] e H K := AsM rfl
def Azt := (And.intro (And.intro (And.intro @AId @AIa) (And.intro @AH8 @AIc)) (And.intro (And.intro @AIf @AH9) (And.intro @AKk @AKv)))
def AHT := AvA 26 Tryd.func11 AL9 AMU rfl

def Avv : AsQ := .seq (.ops [po_ 2 (.mov (.c (.slice none 0 0)))] [0])
 (.seq (.seq (.ops [mv_ 3 0,
  so_ 4 (.eqS (.t 3) false)] [0, 4])
 (.cond (.t 4)
 (.seq (.ops [po_ 2 (.mov (.c (.slice none 0 0)))] [2])
  (.ret))
 (.skip)))
 (.seq (.ops [so_ 5 (.bslice 20 0 (.arr 20 1 [.val (.int .u8 ((0 : Nat) : Int)), .val (.int .u8 ((0 : Nat) : Int)), .val (.int .u8 ((0 : Nat) : Int)), .val (.int .u8 ((0 : Nat) : Int)), .val (.int .u8 ((0 : Nat) : Int)), .val (.int .u8 ((0 : Nat) : Int)), .val (.int .u8 ((0 : Nat) : Int)), .val (.int .u8 ((0 : Nat) : Int)), .val (.int .u8 ((0 : Nat) : Int)), .val (.int .u8 ((0 : Nat) : Int)), .val (.int .u8 ((0 : Nat) : Int)), .val (.int .u8 ((0 : Nat) : Int)), .val (.int .u8 ((0 : Nat) : Int)), .val (.int .u8 ((0 : Nat) : Int)), .val (.int .u8 ((0 : Nat) : Int)), .val (.int .u8 ((0 : Nat) : Int)), .val (.int .u8 ((0 : Nat) : Int)), .val (.int .u8 ((0 : Nat) : Int)), .val (.int .u8 ((0 : Nat) : Int)), .val (.int .u8 ((0 : Nat) : Int))]) []),
  mv_ 6 0,
  so_ 7 (.app 20 20 40 (.t 5) (.t 6)),
  mv_ 2 7] [2])
 (.ret)))
def Avy : List VR := [.tmp 2]
theorem Ay2 : Tryd.f38.body.bind (trC Tryd.prog Tryd.f38.ntmps) = some (er Avv) := by kernel_rfl
theorem Ay5 : trR Tryd.prog Tryd.f38.results.toList = some Avy := by kernel_rfl
def Ayw := AsN Avv.eq_1
theorem Ays {K : TV → Prop} {e : Env} {H : List Ob} : res Avy e H K = res [.tmp 2] e H K := AsM rfl
def As4 := (And.intro @Ayw @Ays)
def At4 := AvA 8 Tryd.func38 Ay2 Ay5 rfl

def AuR : AsQ := .seq (.ops [mv_ 45 0,
  mv_ 46 3,
  mv_ 47 4,
  mv_ 48 5,
  po_ 49 (.idxA 20 (.t 47) (.t 48)),
  po_ 50 (.load true 20 (.t 49)),
  po_ 51 (.idxA 20 (.t 45) (.t 46)),
  ⟨none, .s (.store 20 (.t 51) (.t 50)), none⟩] [0, 3, 4, 5])
 (.ops [mv_ 52 3,
  po_ 53 (.bin 3 .add (.t 52) (ci_ 1)),
  mv_ 3 53] [0, 3, 4, 5])
def AuJ : AsQ := .seq (.block 3 (.seq (.draw 5 [mv_ 35 4,
  mv_ 36 5,
  po_ 37 (.idxA 20 (.t 35) (.t 36)),
  po_ 38 (.load true 20 (.t 37)),
  mv_ 39 4,
  mv_ 40 5,
  po_ 41 (.bin 3 .sub (.t 40) (ci_ 1)),
  po_ 42 (.idxA 20 (.t 39) (.t 41)),
  po_ 43 (.load true 20 (.t 42)),
  po_ 44 (.gen (.eqA 20 true) [.t 38, .t 43])] [0, 3, 4, 5, 44])
 (.cond (.t 44)
 AuR
 (.skip))))
 (.ops [mv_ 33 5,
  po_ 34 (.bin 3 .add (.t 33) (ci_ 1)),
  mv_ 5 34] [0, 3, 4, 5])
def AuI : AsQ := .seq (.seq (.ops [mv_ 29 5,
  mv_ 30 4,
  po_ 31 (.lenV (.t 30)),
  po_ 32 (.bin 3 .lss (.t 29) (.t 31))] [0, 3, 4, 5, 32])
 (.cond (.t 32)
 (.skip)
 (.exit 2)))
 AuJ
def AuT : AsQ := .block 2 (.loop [0, 3, 4, 5] AuI)
def AuK : AsQ := .seq (.ops [mv_ 54 0,
  mv_ 55 3,
  po_ 56 (.slV 20 (.t 54) (some (.t 55)) none),
  ⟨none, .s (.clrS 20 (.arr 20 1 [.val (.int .u8 ((0 : Nat) : Int)), .val (.int .u8 ((0 : Nat) : Int)), .val (.int .u8 ((0 : Nat) : Int)), .val (.int .u8 ((0 : Nat) : Int)), .val (.int .u8 ((0 : Nat) : Int)), .val (.int .u8 ((0 : Nat) : Int)), .val (.int .u8 ((0 : Nat) : Int)), .val (.int .u8 ((0 : Nat) : Int)), .val (.int .u8 ((0 : Nat) : Int)), .val (.int .u8 ((0 : Nat) : Int)), .val (.int .u8 ((0 : Nat) : Int)), .val (.int .u8 ((0 : Nat) : Int)), .val (.int .u8 ((0 : Nat) : Int)), .val (.int .u8 ((0 : Nat) : Int)), .val (.int .u8 ((0 : Nat) : Int)), .val (.int .u8 ((0 : Nat) : Int)), .val (.int .u8 ((0 : Nat) : Int)), .val (.int .u8 ((0 : Nat) : Int)), .val (.int .u8 ((0 : Nat) : Int)), .val (.int .u8 ((0 : Nat) : Int))]) (.t 56)), none⟩] [0, 3])
 (.seq (.ops [mv_ 57 0,
  mv_ 58 3,
  po_ 59 (.slV 20 (.t 57) none (some (.t 58))),
  mv_ 2 59] [2])
 (.ret))
def AuQ : AsQ := .seq (.seq (.ops [po_ 5 (.mov (ci_ 1))] [0, 3, 4, 5])
 AuT)
 AuK
def AuU : AsQ := .seq (.ops [mv_ 26 0,
  mv_ 27 3,
  po_ 28 (.slV 20 (.t 26) (some (.t 27)) none),
  mv_ 4 28] [0, 3, 4])
 AuQ
def AuM : AsQ := .cond (.t 25)
 AuU
 (.skip)
def AuP : AsQ := .ops [mv_ 14 3,
  po_ 15 (.bin 3 .add (.t 14) (ci_ 1)),
  mv_ 3 15] [0, 3]
def Aux : AsQ := .seq (.block 1 (.seq (.draw 5 [mv_ 16 0,
  mv_ 17 3,
  po_ 18 (.idxA 20 (.t 16) (.t 17)),
  po_ 19 (.load true 20 (.t 18)),
  mv_ 20 0,
  mv_ 21 3,
  po_ 22 (.bin 3 .sub (.t 21) (ci_ 1)),
  po_ 23 (.idxA 20 (.t 20) (.t 22)),
  po_ 24 (.load true 20 (.t 23)),
  po_ 25 (.gen (.eqA 20 false) [.t 19, .t 24])] [0, 3, 25])
 AuM))
 AuP
def AuB : AsQ := .seq (.seq (.ops [mv_ 10 3,
  mv_ 11 0,
  po_ 12 (.lenV (.t 11)),
  po_ 13 (.bin 3 .lss (.t 10) (.t 12))] [0, 3, 13])
 (.cond (.t 13)
 (.skip)
 (.exit 0)))
 Aux
def Auy : AsQ := .block 0 (.loop [0, 3] AuB)
def Auv : AsQ := .seq (.ops [mv_ 60 0,
  mv_ 2 60] [2])
 (.ret)
def AuE : AsQ := .seq (.seq (.ops [po_ 3 (.mov (ci_ 1))] [0, 3])
 Auy)
 Auv
def Auw : AsQ := .seq (.seq (.ops [mv_ 6 0,
  po_ 7 (.lenV (.t 6)),
  po_ 8 (.bin 3 .lss (.t 7) (ci_ 2))] [0, 8])
 (.cond (.t 8)
 (.seq (.ops [mv_ 9 0,
   mv_ 2 9] [2])
  (.ret))
 (.skip)))
 AuE
def Avl : AsQ := .seq (.ops [po_ 2 (.mov (.c (.slice none 0 0)))] [0])
 Auw
def Avh : List VR := [.tmp 2]
theorem Ayh : Tryd.f48.body.bind (trC Tryd.prog Tryd.f48.ntmps) = some (er Avl) := by kernel_rfl
theorem Ayg : trR Tryd.prog Tryd.f48.results.toList = some Avh := by kernel_rfl
def Awk := AsN AuR.eq_1
def Awf := AsN AuJ.eq_1
def Awt := AsN AuI.eq_1
def Awd := AsN AuT.eq_1
def Aww := AsN AuK.eq_1
def Awj := AsN AuQ.eq_1
def Awx := AsN AuU.eq_1
def Awq := AsN AuM.eq_1
def Aws := AsN AuP.eq_1
def Av5 := AsN Aux.eq_1
def Av1 := AsN AuB.eq_1
def Av4 := AsN Auy.eq_1
def Av7 := AsN Auv.eq_1
def Av3 := AsN AuE.eq_1
def Av8 := AsN Auw.eq_1
def Axo := AsN Avl.eq_1
theorem Axq {K : TV → Prop} {e : Env} {H : List Ob} : res Avh e H K = res [.tmp 2] e H K := AsM rfl
def As3 := (And.intro (And.intro (And.intro (And.intro (And.intro @Awk @Awf) (And.intro @Awt @Awd)) (And.intro (And.intro @Aww @Awj) (And.intro @Awx @Awq))) (And.intro (And.intro (And.intro @Aws @Av5) (And.intro @Av1 @Av4)) (And.intro (And.intro @Av7 @Av3) (And.intro @Av8 @Axo)))) @Axq)
def Avf := AvA 61 Tryd.func48 Ayh Ayg rfl

def Aua : AsQ := .seq (.ops [mv_ 30 0,
  mv_ 31 5,
  po_ 32 (.load true 20 (.t 7)),
  po_ 33 (.idxA 20 (.t 30) (.t 31)),
  ⟨none, .s (.store 20 (.t 33) (.t 32)), none⟩] [0, 1, 5, 6])
 (.ops [mv_ 34 5,
  po_ 35 (.bin 3 .add (.t 34) (ci_ 1)),
  mv_ 5 35] [0, 1, 5, 6])
def Auh : AsQ := .seq (.block 1 (.seq (.ops [mv_ 22 0,
  mv_ 23 6,
  po_ 24 (.idxA 20 (.t 22) (.t 23)),
  po_ 25 (.load true 20 (.t 24)),
  so_ 7 (.alloc (.arr 20 1 [.val (.int .u8 ((0 : Nat) : Int)), .val (.int .u8 ((0 : Nat) : Int)), .val (.int .u8 ((0 : Nat) : Int)), .val (.int .u8 ((0 : Nat) : Int)), .val (.int .u8 ((0 : Nat) : Int)), .val (.int .u8 ((0 : Nat) : Int)), .val (.int .u8 ((0 : Nat) : Int)), .val (.int .u8 ((0 : Nat) : Int)), .val (.int .u8 ((0 : Nat) : Int)), .val (.int .u8 ((0 : Nat) : Int)), .val (.int .u8 ((0 : Nat) : Int)), .val (.int .u8 ((0 : Nat) : Int)), .val (.int .u8 ((0 : Nat) : Int)), .val (.int .u8 ((0 : Nat) : Int)), .val (.int .u8 ((0 : Nat) : Int)), .val (.int .u8 ((0 : Nat) : Int)), .val (.int .u8 ((0 : Nat) : Int)), .val (.int .u8 ((0 : Nat) : Int)), .val (.int .u8 ((0 : Nat) : Int)), .val (.int .u8 ((0 : Nat) : Int))])),
  ⟨none, .s (.store 20 (.t 7) (.t 25)), none⟩] [0, 1, 5, 6, 7])
 (.seq (.ops [mv_ 26 1,
  po_ 27 (.load true 20 (.t 7)),
  so_ 28 (.callv (.t 26) [.t 27]),
  po_ 29 (.un .not (.t 28))] [0, 1, 5, 6, 7, 29])
 (.cond (.t 29)
 Aua
 (.skip)))))
 (.ops [mv_ 20 6,
  po_ 21 (.bin 3 .add (.t 20) (ci_ 1)),
  mv_ 6 21] [0, 1, 5, 6])
def Auc : AsQ := .seq (.seq (.ops [mv_ 16 6,
  mv_ 17 0,
  po_ 18 (.lenV (.t 17)),
  po_ 19 (.bin 3 .lss (.t 16) (.t 18))] [0, 1, 5, 6, 19])
 (.cond (.t 19)
 (.skip)
 (.exit 0)))
 Auh
def Aue : AsQ := .block 0 (.loop [0, 1, 5, 6] Auc)
def Aug : AsQ := .seq (.ops [mv_ 36 0,
  mv_ 37 5,
  po_ 38 (.slV 20 (.t 36) (some (.t 37)) none),
  ⟨none, .s (.clrS 20 (.arr 20 1 [.val (.int .u8 ((0 : Nat) : Int)), .val (.int .u8 ((0 : Nat) : Int)), .val (.int .u8 ((0 : Nat) : Int)), .val (.int .u8 ((0 : Nat) : Int)), .val (.int .u8 ((0 : Nat) : Int)), .val (.int .u8 ((0 : Nat) : Int)), .val (.int .u8 ((0 : Nat) : Int)), .val (.int .u8 ((0 : Nat) : Int)), .val (.int .u8 ((0 : Nat) : Int)), .val (.int .u8 ((0 : Nat) : Int)), .val (.int .u8 ((0 : Nat) : Int)), .val (.int .u8 ((0 : Nat) : Int)), .val (.int .u8 ((0 : Nat) : Int)), .val (.int .u8 ((0 : Nat) : Int)), .val (.int .u8 ((0 : Nat) : Int)), .val (.int .u8 ((0 : Nat) : Int)), .val (.int .u8 ((0 : Nat) : Int)), .val (.int .u8 ((0 : Nat) : Int)), .val (.int .u8 ((0 : Nat) : Int)), .val (.int .u8 ((0 : Nat) : Int))]) (.t 38)), none⟩] [0, 5])
 (.seq (.ops [mv_ 39 0,
  mv_ 40 5,
  po_ 41 (.slV 20 (.t 39) none (some (.t 40))),
  mv_ 4 41] [4])
 (.ret))
def Aub : AsQ := .seq (.seq (.ops [mv_ 14 5,
  po_ 15 (.bin 3 .add (.t 14) (ci_ 1)),
  mv_ 6 15] [0, 1, 5, 6])
 Aue)
 Aug
def Auf : AsQ := .seq (.seq (.ops [mv_ 11 5,
  po_ 12 (.bin 3 .eql (.t 11) (.c (.int .i64 (-1))))] [0, 1, 5, 12])
 (.cond (.t 12)
 (.seq (.ops [mv_ 13 0,
   mv_ 4 13] [4])
  (.ret))
 (.skip)))
 Aub
def Aud : AsQ := .seq (.ops [mv_ 8 0,
  mv_ 9 1,
  so_ 10 (.call 58 [.t 8, .t 9]),
  mv_ 5 10] [0, 1, 5])
 Auf
def AuO : AsQ := .seq (.ops [po_ 4 (.mov (.c (.slice none 0 0)))] [0, 1])
 Aud
def AuX : List VR := [.tmp 4]
theorem Aw4 : Tryd.f49.body.bind (trC Tryd.prog Tryd.f49.ntmps) = some (er AuO) := by kernel_rfl
theorem Axg : trR Tryd.prog Tryd.f49.results.toList = some AuX := by kernel_rfl
def AvL := AsN Aua.eq_1
def AvK := AsN Auh.eq_1
def AvP := AsN Auc.eq_1
def AvO := AsN Aue.eq_1
def AvN := AsN Aug.eq_1
def AvI := AsN Aub.eq_1
def AvM := AsN Auf.eq_1
def AvH := AsN Aud.eq_1
def Awo := AsN AuO.eq_1
theorem Awr {K : TV → Prop} {e : Env} {H : List Ob} : res AuX e H K = res [.tmp 4] e H K := AsM rfl
def As0 := (And.intro (And.intro (And.intro (And.intro @AvL @AvK) (And.intro @AvP @AvO)) (And.intro (And.intro @AvN @AvI) (And.intro @AvM @AvH))) (And.intro @Awo @Awr))
def AuA := AvA 42 Tryd.func49 Aw4 Axg rfl

def Aus : AsQ := .seq (.ops [po_ 4 (.mov (.c (.bool false)))] [0, 1])
 (.seq (.ops [mv_ 5 0,
  mv_ 6 1,
  so_ 7 (.call 58 [.t 5, .t 6]),
  po_ 8 (.bin 3 .geq (.t 7) (ci_ 0)),
  mv_ 4 8] [4])
 (.ret))
def Aup : List VR := [.tmp 4]
theorem Awm : Tryd.f50.body.bind (trC Tryd.prog Tryd.f50.ntmps) = some (er Aus) := by kernel_rfl
theorem Awp : trR Tryd.prog Tryd.f50.results.toList = some Aup := by kernel_rfl
def AvZ := AsN Aus.eq_1
theorem Av0 {K : TV → Prop} {e : Env} {H : List Ob} : res Aup e H K = res [.tmp 4] e H K := AsM rfl
def Atu := (And.intro @AvZ @Av0)
def Av6 := AvA 9 Tryd.func50 Awm Awp rfl

def Aul : AsQ := .seq (.ops [po_ 9 (.bin 3 .lss (.t 8) (.t 7))] [0, 1, 7, 8, 9])
 (.seq (.cond (.t 9)
 (.skip)
 (.exit 0))
 (.seq (.block 1 (.seq (.ops [mv_ 10 8,
  mv_ 5 10] [0, 1, 5, 7, 8])
 (.seq (.ops [mv_ 11 1,
  mv_ 12 0,
  mv_ 13 5,
  po_ 14 (.idxA 20 (.t 12) (.t 13)),
  po_ 15 (.load true 20 (.t 14)),
  so_ 16 (.callv (.t 11) [.t 15])] [0, 1, 5, 7, 8, 16])
 (.cond (.t 16)
 (.seq (.ops [mv_ 17 5,
   mv_ 4 17] [4])
  (.ret))
 (.skip)))))
 (.ops [po_ 18 (.bin 3 .add (.t 8) (ci_ 1)),
  mv_ 8 18] [0, 1, 7, 8])))
def Aui : AsQ := .block 0 (.loop [0, 1, 7, 8] Aul)
def Aum : AsQ := .seq (.ops [po_ 4 (.mov (.c (.int .i64 (-1))))] [4])
 (.ret)
def Aur : AsQ := .seq (.seq (.ops [mv_ 6 0,
  po_ 7 (.lenV (.t 6)),
  po_ 8 (.mov (ci_ 0))] [0, 1, 7, 8])
 Aui)
 Aum
def Au9 : AsQ := .seq (.ops [po_ 4 (.mov (ci_ 0))] [0, 1])
 Aur
def Au8 : List VR := [.tmp 4]
theorem Axu : Tryd.f58.body.bind (trC Tryd.prog Tryd.f58.ntmps) = some (er Au9) := by kernel_rfl
theorem Axs : trR Tryd.prog Tryd.f58.results.toList = some Au8 := by kernel_rfl
def AvT := AsN Aul.eq_1
def AvW := AsN Aui.eq_1
def AvY := AsN Aum.eq_1
def AvX := AsN Aur.eq_1
def AwS := AsN Au9.eq_1
theorem AwR {K : TV → Prop} {e : Env} {H : List Ob} : res Au8 e H K = res [.tmp 4] e H K := AsM rfl
def AsX := (And.intro (And.intro (And.intro @AvT @AvW) (And.intro @AvY @AvX)) (And.intro @AwS @AwR))
def AtF := AvA 19 Tryd.func58 Axu Axs rfl

end Go.Proofs.YtingoaihnlhiaaaDoor


namespace Go.Proofs.YtingoaihnlhiaaaDoor
open Go.RowKit
variable [Atj]
set_option linter.unusedSectionVars false
set_option linter.unusedVariables false
set_option linter.unusedSimpArgs false

/-- Is it the id of a node? -/
def AOS (l : List Nd) (x : List UInt8) : Bool := (As7 l).contains x
theorem AzX {l : List Nd} {x : List UInt8} : AOS l x = true ↔ x ∈ As7 l := by simp [AOS]
theorem AsY {α : Type} {H : List α} {i : Nat} {o : α} (h : H[i]? = some o) : i < H.length := (List.getElem?_eq_some_iff.1 h).1
theorem ADG {l : List Nd} (hn : (As7 l).Nodup) (x : List UInt8) : (AwD x (Atf l)).isSome = AOS l x := by
 by_cases hx : x ∈ As7 l
 ·obtain ⟨m, hm, rfl⟩ := List.mem_map.1 hx
  rw [AvD hn hm, (AzX).2 hx]; rfl
 ·rw [AI2 hx hn]
  cases h : AOS l x with
  | false => rfl
  | true => exact absurd (AzX.1 h) hx

theorem AUX {l : List Nd} (hn : (As7 l).Nodup) {H : List Ob} {c gi mi : Nat} (hc : H[c]? = some (.obj 0 (.op gi 0 []))) (hg : H[gi]? = some (.obj 0 (.agg [.mp mi 0, .val (.map none)]))) (hm : H[mi]? = some (.mpo (.arr 20) (Atf l))) (x : List UInt8) {K : TV → List Ob → Prop}
  (hK : ∀ T, K (tb (!AOS l x)) (H ++ T)) : AsZ Tryd.prog 51 [idT x, .op c 0 []] H K := by
 have h1 := AsY hc
 have h2 := AsY hg
 have h3 := AsY hm
 have h4 := ADG hn x
 refine ACY (by simp) ?_
 cases hl : AwD x (Atf l) with
 | none =>
  rw [hl] at h4
  simp -dsimp (disch := first | assumption | omega | (simp only [AsO]; done) | (simp only [AsO]; omega)) only [↓AsU, AsP, AsT, AsR, eq_self, forall_const, Nat.reduceLT, Nat.reduceEqDiff, Nat.reduceSub, Nat.reduceMul, Nat.reduceMod, Nat.reduceDiv, Nat.reducePow, UInt8.reduceToNat, Int.reduceEq, Int.reduceLT, Int.reduceLE, ↓reduceIte, Nat.reduceAdd, Int.reduceToNat, reduceCtorEq, Nat.reduceLeDiff, ↓Aye, hc, hg, hm, As9, hl]
  rw [← h4] at hK
  simp only [List.append_assoc]
  exact hK _
 | some y =>
  rw [hl] at h4
  have hy : ∃ n : Nd, y = ndT n := by
   by_cases hx : x ∈ As7 l
   ·obtain ⟨m, hm, rfl⟩ := List.mem_map.1 hx
    rw [AvD hn hm] at hl; cases hl; exact ⟨m, rfl⟩
   ·rw [AI2 hx hn] at hl; cases hl
  obtain ⟨n, rfl⟩ := hy
  simp -dsimp (disch := first | assumption | omega | (simp only [AsO]; done) | (simp only [AsO]; omega)) only [↓AsU, AsP, AsT, AsR, eq_self, forall_const, Nat.reduceLT, Nat.reduceEqDiff, Nat.reduceSub, Nat.reduceMul, Nat.reduceMod, Nat.reduceDiv, Nat.reducePow, UInt8.reduceToNat, Int.reduceEq, Int.reduceLT, Int.reduceLE, ↓reduceIte, Nat.reduceAdd, Int.reduceToNat, reduceCtorEq, Nat.reduceLeDiff, ↓Aye, hc, hg, hm, As9, hl, Atl]
  rw [← h4] at hK
  simp only [List.append_assoc]
  exact hK _

theorem AJL {α : Type} {ids : List α} {p : α → Bool} {i : Nat} {x : α} (hg : ids[i]? = some x) (h : ∀ y ∈ ids.take i, p y = false) (hp : p x = true) : ids.findIdx p = i ∧ ids.any p = true := by
 obtain ⟨hi, rfl⟩ := List.getElem?_eq_some_iff.1 hg
 refine ⟨(List.findIdx_eq hi).2 ⟨hp, fun j hj => h _ ?_⟩, List.any_eq_true.2 ⟨_, List.getElem_mem hi, hp⟩⟩
 rw [List.mem_take_iff_getElem]
 exact ⟨j, by omega, rfl⟩
/-- slices.IndexFunc, slices.ContainsFunc: the function is asked of one behind the other; it leaves what was there aS it was. -/
theorem AOq {ids : List (List UInt8)} (hlen : ids.length ≤ 100000) {p : List UInt8 → Bool} {H : List Ob} {g : FuncId} {a caps : List TV} (hgo : AEe Tryd.prog g = true) (hp : ∀ x ∈ ids, ∀ T K, (∀ T', K (tb (p x)) (H ++ T ++ T')) → AsZ Tryd.prog g (a ++ [idT x] ++ caps) (H ++ T) K) {K : TV → List Ob → Prop}
  (hK : ∀ T, K (i64 (if ids.any p then ((ids.findIdx p : Nat) : Int) else -1)) (H ++ T)) : AsZ Tryd.prog 58 [.sl 20 (ids.map idT), .fn (.func g) a caps] H K := by
 refine AtF (by simp) ?_
 simp -dsimp (disch := first | assumption | omega) only [↓AsU, AsP, AsT, AsR, eq_self, forall_const, Nat.reduceLT, Nat.reduceEqDiff, Nat.reduceSub, Nat.reduceMul, Nat.reduceMod, Nat.reduceDiv, Nat.reducePow, UInt8.reduceToNat, Int.reduceEq, Int.reduceLT, Int.reduceLE, ↓reduceIte, Nat.reduceAdd, Int.reduceToNat, reduceCtorEq, Nat.reduceLeDiff, ↓AsX]
 refine AtO (fun q e H' => ∃ (i : Nat) (T : List Ob), q = ids.length - i ∧ i ≤ ids.length ∧ (∀ x ∈ ids.take i, p x = false) ∧ e = [(0, .sl 20 (ids.map idT)), (1, .fn (.func g) a caps), (7, i64 (ids.length : Int)), (8, i64 (i : Int))] ∧ H' = H ++ T) ids.length ?_ ?_
 ·exact ⟨0, [], by simp, by simp, by simp, rfl, by simp⟩
 ·rintro q e H' ⟨i, T, rfl, hi, hno, rfl, rfl⟩
  by_cases h : i < ids.length
  ·have hg : ids[i]? = some ids[i] := List.getElem?_eq_getElem h
   have hsucc := List.take_succ_eq_append_getElem h
   have hpx := hp ids[i] (List.getElem_mem h) T
   generalize ids[i] = x at *
   simp -dsimp (disch := first | assumption | omega | (simp only [AsO]; done) | (simp only [AsO]; omega)) only [↓AsU, AsP, AsT, AsR, eq_self, forall_const, Nat.reduceLT, Nat.reduceEqDiff, Nat.reduceSub, Nat.reduceMul, Nat.reduceMod, Nat.reduceDiv, Nat.reducePow, UInt8.reduceToNat, Int.reduceEq, Int.reduceLT, Int.reduceLE, ↓reduceIte, Nat.reduceAdd, Int.reduceToNat, reduceCtorEq, Nat.reduceLeDiff, ↓AsX, hg, hgo, AtW, At7, Atm]
   refine AtV (hpx _ fun T' => ?_)
   by_cases hpt : p x = true
   ·rw [hpt]
    simp -dsimp (disch := first | assumption | omega | (simp only [AsO]; done) | (simp only [AsO]; omega)) only [↓AsU, AsP, AsT, AsR, eq_self, forall_const, Nat.reduceLT, Nat.reduceEqDiff, Nat.reduceSub, Nat.reduceMul, Nat.reduceMod, Nat.reduceDiv, Nat.reducePow, UInt8.reduceToNat, Int.reduceEq, Int.reduceLT, Int.reduceLE, ↓reduceIte, Nat.reduceAdd, Int.reduceToNat, reduceCtorEq, Nat.reduceLeDiff, ↓AsX]
    obtain ⟨e1, e2⟩ := AJL hg hno hpt
    rw [if_pos e2, e1] at hK
    simp only [List.append_assoc]
    exact hK _
   ·have hpf : p x = false := by simpa using hpt
    rw [hpf]
    simp -dsimp (disch := first | assumption | omega | (simp only [AsO]; done) | (simp only [AsO]; omega)) only [↓AsU, AsP, AsT, AsR, eq_self, forall_const, Nat.reduceLT, Nat.reduceEqDiff, Nat.reduceSub, Nat.reduceMul, Nat.reduceMod, Nat.reduceDiv, Nat.reducePow, UInt8.reduceToNat, Int.reduceEq, Int.reduceLT, Int.reduceLE, ↓reduceIte, Nat.reduceAdd, Int.reduceToNat, reduceCtorEq, Nat.reduceLeDiff, ↓AsX]
    refine Ate (ids.length - (i + 1)) (by omega) (by simp) ⟨i + 1, T ++ T', rfl, by omega, fun y hy => ?_, by simp [forget, get], by simp⟩
    rw [hsucc, List.mem_append, List.mem_singleton] at hy
    rcases hy with hy | rfl
    ·exact hno y hy
    ·exact hpf
  ·have hi2 : i = ids.length := by omega
   subst hi2
   rw [List.take_length] at hno
   simp -dsimp (disch := first | assumption | omega | (simp only [AsO]; done) | (simp only [AsO]; omega)) only [↓AsU, AsP, AsT, AsR, eq_self, forall_const, Nat.reduceLT, Nat.reduceEqDiff, Nat.reduceSub, Nat.reduceMul, Nat.reduceMod, Nat.reduceDiv, Nat.reducePow, UInt8.reduceToNat, Int.reduceEq, Int.reduceLT, Int.reduceLE, ↓reduceIte, Nat.reduceAdd, Int.reduceToNat, reduceCtorEq, Nat.reduceLeDiff, ↓AsX]
   have hany : ¬ ids.any p = true := by
    rw [List.any_eq_true]
    rintro ⟨y, hy, h⟩
    rw [hno y hy] at h; cases h
   rw [if_neg hany] at hK
   exact hK _
theorem AKs {ids : List (List UInt8)} (hlen : ids.length ≤ 100000) {p : List UInt8 → Bool} {H : List Ob} {g : FuncId} {a caps : List TV} (hnt : AAJ (a ++ caps)) (hgo : AEe Tryd.prog g = true) (hp : ∀ x ∈ ids, ∀ T K, (∀ T', K (tb (p x)) (H ++ T ++ T')) → AsZ Tryd.prog g (a ++ [idT x] ++ caps) (H ++ T) K) {K : TV → List Ob → Prop}
  (hK : ∀ T, K (tb (ids.any p)) (H ++ T)) : AsZ Tryd.prog 50 [.sl 20 (ids.map idT), .fn (.func g) a caps] H K := by
 refine Av6 (by simp) ?_
 simp -dsimp (disch := first | assumption | omega | (simp only [AsO]; done) | (simp only [AsO]; omega)) only [↓AsU, AsP, AsT, AsR, eq_self, forall_const, Nat.reduceLT, Nat.reduceEqDiff, Nat.reduceSub, Nat.reduceMul, Nat.reduceMod, Nat.reduceDiv, Nat.reducePow, UInt8.reduceToNat, Int.reduceEq, Int.reduceLT, Int.reduceLE, ↓reduceIte, Nat.reduceAdd, Int.reduceToNat, reduceCtorEq, Nat.reduceLeDiff, ↓Atu]
 refine AtV (AOq hlen hgo hp fun T => ?_)
 by_cases h : ids.any p = true
 ·rw [if_pos h]
  rw [h] at hK
  simp -dsimp (disch := first | assumption | omega | (simp only [AsO]; done) | (simp only [AsO]; omega)) only [↓AsU, AsP, AsT, AsR, eq_self, forall_const, Nat.reduceLT, Nat.reduceEqDiff, Nat.reduceSub, Nat.reduceMul, Nat.reduceMod, Nat.reduceDiv, Nat.reducePow, UInt8.reduceToNat, Int.reduceEq, Int.reduceLT, Int.reduceLE, ↓reduceIte, Nat.reduceAdd, Int.reduceToNat, reduceCtorEq, Nat.reduceLeDiff, ↓Atu]
  exact hK _
 ·rw [if_neg h]
  have h' : ids.any p = false := by simpa using h
  rw [h'] at hK
  simp -dsimp (disch := first | assumption | omega | (simp only [AsO]; done) | (simp only [AsO]; omega)) only [↓AsU, AsP, AsT, AsR, eq_self, forall_const, Nat.reduceLT, Nat.reduceEqDiff, Nat.reduceSub, Nat.reduceMul, Nat.reduceMod, Nat.reduceDiv, Nat.reducePow, UInt8.reduceToNat, Int.reduceEq, Int.reduceLT, Int.reduceLE, ↓reduceIte, Nat.reduceAdd, Int.reduceToNat, reduceCtorEq, Nat.reduceLeDiff, ↓Atu]
  exact hK _
theorem AX0 {l : List Nd} (hn : (As7 l).Nodup) {ids : List (List UInt8)} (hlen : ids.length ≤ 100000) {H : List Ob} {gi mi : Nat} (hg : H[gi]? = some (.obj 0 (.agg [.mp mi 0, .val (.map none)]))) (hm : H[mi]? = some (.mpo (.arr 20) (Atf l))) {K : TV → List Ob → Prop}
  (hK : ∀ T, K (tb (ids.all (AOS l))) (H ++ T)) : AsZ Tryd.prog 36 [.op gi 0 [], .sl 20 (ids.map idT)] H K := by
 have h2 := AsY hg
 have h3 := AsY hm
 refine AEw (by simp) ?_
 simp -dsimp (disch := first | assumption | omega | (simp only [AsO]; done) | (simp only [AsO]; omega)) only [↓AsU, AsP, AsT, AsR, eq_self, forall_const, Nat.reduceLT, Nat.reduceEqDiff, Nat.reduceSub, Nat.reduceMul, Nat.reduceMod, Nat.reduceDiv, Nat.reducePow, UInt8.reduceToNat, Int.reduceEq, Int.reduceLT, Int.reduceLE, ↓reduceIte, Nat.reduceAdd, Int.reduceToNat, reduceCtorEq, Nat.reduceLeDiff, ↓Azm]
 refine AtV (AKs (p := fun x => !AOS l x) hlen (by simp [AAJ, AtQ]) (by kernel_rfl) (fun x hx T K hK => ?_) fun T => ?_)
 ·refine AUX (l := l) (gi := gi) (mi := mi) hn ?_ ?_ ?_ x fun T' => hK T'
  ·rw [Atg (by simp)]; exact ACB rfl
  ·rw [List.append_assoc, Atg h2]; exact hg
  ·rw [List.append_assoc, Atg h3]; exact hm
 ·simp -dsimp (disch := first | assumption | omega | (simp only [AsO]; done) | (simp only [AsO]; omega)) only [↓AsU, AsP, AsT, AsR, eq_self, forall_const, Nat.reduceLT, Nat.reduceEqDiff, Nat.reduceSub, Nat.reduceMul, Nat.reduceMod, Nat.reduceDiv, Nat.reducePow, UInt8.reduceToNat, Int.reduceEq, Int.reduceLT, Int.reduceLE, ↓reduceIte, Nat.reduceAdd, Int.reduceToNat, reduceCtorEq, Nat.reduceLeDiff, ↓Azm]
  have e : (!ids.any fun x => !AOS l x) = ids.all (AOS l) := by rw [List.not_any_eq_all_not]; simp
  rw [e]
  simp only [List.append_assoc]
  exact hK _
/-- A graph in which ids are known. -/
def AKI (l : List Nd) (ids : List (List UInt8)) : Prop := GOk l ∧ ids.all (AOS l) = true
theorem ofV (l : List Nd) (hl : l.length ≤ 1000) (hp : ∀ n ∈ l, n.ps.length ≤ 1000) (ids : List (List UInt8)) (hlen : ids.length ≤ 100000) : AsZ Tryd.prog 19 [.sl 22 (l.map ndT), .sl 20 (ids.map idT)] [] (fun x H' =>
  (AKI l ids → x = .tup [.op 1 0 [], .val .nilIface] ∧ ∃ T, H' = [.mpo (.arr 20) (Atf l), AGz] ++ T) ∧ (¬ AKI l ids → ∃ g, x = .tup [g, .ifc 36 (i64 ((80 : Nat) : Int))])) := by
 refine AMi (by simp) ?_
 simp -dsimp (disch := first | assumption | omega | (simp only [AsO]; done) | (simp only [AsO]; omega)) only [↓AsU, AsP, AsT, AsR, eq_self, forall_const, Nat.reduceLT, Nat.reduceEqDiff, Nat.reduceSub, Nat.reduceMul, Nat.reduceMod, Nat.reduceDiv, Nat.reducePow, UInt8.reduceToNat, Int.reduceEq, Int.reduceLT, Int.reduceLE, ↓reduceIte, Nat.reduceAdd, Int.reduceToNat, reduceCtorEq, Nat.reduceLeDiff, ↓ABm]
 refine AtV ((A1t l hl hp).mono ?_)
 rintro x H' ⟨h1, h2⟩
 by_cases hok : GOk l
 ·obtain ⟨rfl, es, o, rfl⟩ := h1 hok
  simp -dsimp (disch := first | assumption | omega | (simp only [AsO]; done) | (simp only [AsO]; omega)) only [↓AsU, AsP, AsT, AsR, eq_self, forall_const, Nat.reduceLT, Nat.reduceEqDiff, Nat.reduceSub, Nat.reduceMul, Nat.reduceMod, Nat.reduceDiv, Nat.reducePow, UInt8.reduceToNat, Int.reduceEq, Int.reduceLT, Int.reduceLE, ↓reduceIte, Nat.reduceAdd, Int.reduceToNat, reduceCtorEq, Nat.reduceLeDiff, ↓ABm]
  refine AtV (AX0 hok.1.nodup hlen (H := [.mpo (.arr 20) (Atf l), AGz, .mpo (.arr 20) es, o]) (mi := 0) rfl rfl fun T => ?_)
  by_cases hk : ids.all (AOS l) = true
  ·rw [hk]
   simp -dsimp (disch := first | assumption | omega | (simp only [AsO]; done) | (simp only [AsO]; omega)) only [↓AsU, AsP, AsT, AsR, eq_self, forall_const, Nat.reduceLT, Nat.reduceEqDiff, Nat.reduceSub, Nat.reduceMul, Nat.reduceMod, Nat.reduceDiv, Nat.reducePow, UInt8.reduceToNat, Int.reduceEq, Int.reduceLT, Int.reduceLE, ↓reduceIte, Nat.reduceAdd, Int.reduceToNat, reduceCtorEq, Nat.reduceLeDiff, ↓ABm]
   exact ⟨fun _ => ⟨_, rfl⟩, fun h => absurd ⟨hok, hk⟩ h⟩
  ·have hk' : ids.all (AOS l) = false := by simpa using hk
   rw [hk']
   simp -dsimp (disch := first | assumption | omega | (simp only [AsO]; done) | (simp only [AsO]; omega)) only [↓AsU, AsP, AsT, AsR, eq_self, forall_const, Nat.reduceLT, Nat.reduceEqDiff, Nat.reduceSub, Nat.reduceMul, Nat.reduceMod, Nat.reduceDiv, Nat.reducePow, UInt8.reduceToNat, Int.reduceEq, Int.reduceLT, Int.reduceLE, ↓reduceIte, Nat.reduceAdd, Int.reduceToNat, reduceCtorEq, Nat.reduceLeDiff, ↓ABm]
   exact ⟨fun h => absurd h.2 hk, fun _ => ⟨_, rfl⟩⟩
 ·obtain rfl := h2 hok
  simp -dsimp (disch := first | assumption | omega | (simp only [AsO]; done) | (simp only [AsO]; omega)) only [↓AsU, AsP, AsT, AsR, eq_self, forall_const, Nat.reduceLT, Nat.reduceEqDiff, Nat.reduceSub, Nat.reduceMul, Nat.reduceMod, Nat.reduceDiv, Nat.reducePow, UInt8.reduceToNat, Int.reduceEq, Int.reduceLT, Int.reduceLE, ↓reduceIte, Nat.reduceAdd, Int.reduceToNat, reduceCtorEq, Nat.reduceLeDiff, ↓ABm]
  exact ⟨fun h => absurd h.1 hok, fun _ => ⟨_, rfl⟩⟩
end Go.Proofs.YtingoaihnlhiaaaDoor


namespace Go.Proofs
open Go.Shelf
def Tryd.sortL_ren : Go.Shelf.Ren := ⟨fun | 6 => 45 | 15 => 56 | 14 => 55 | 28 => 67 | 29 => 68 | 20 => 59 | 21 => 60 | 22 => 61 | 23 => 62 | 24 => 63 | 25 => 64 | 26 => 65 | 27 => 66 | 46 => 69 | 47 => 70 | 48 => 71 | 49 => 72 | 50 => 73 | 57 => 74 | n => n, fun | 22 => 23 | 24 => 40 | 25 => 112 | 3 => 3 | 39 => 133 | 0 => 0 | 53 => 144 | 55 => 146 | 4 => 4 | 46 => 137 | 45 => 136 | 50 => 141 | 5 => 5 | 9 => 9 | 66 => 147 | 70 => 151 | 76 => 153 | 77 => 154 | n => n, fun | n => n⟩
theorem Tryd.sortL : Go.Proofs.SlLaysF0.n6 Tryd.prog Tryd.sortL_ren := {
 mixed := by kernel_rfl
 f6 := ⟨Tryd.f45.name, by decide, Tryd.func45.trans (congrArg some (by kernel_rfl))⟩
 f14 := ⟨Tryd.f55.name, by decide, Tryd.func55.trans (congrArg some (by kernel_rfl))⟩
 f15 := Tryd.func56.trans (congrArg some (by kernel_rfl))
 f20 := ⟨Tryd.f59.name, by decide, Tryd.func59.trans (congrArg some (by kernel_rfl))⟩
 f21 := ⟨Tryd.f60.name, by decide, Tryd.func60.trans (congrArg some (by kernel_rfl))⟩
 f22 := ⟨Tryd.f61.name, by decide, Tryd.func61.trans (congrArg some (by kernel_rfl))⟩
 f23 := ⟨Tryd.f62.name, by decide, Tryd.func62.trans (congrArg some (by kernel_rfl))⟩
 f24 := ⟨Tryd.f63.name, by decide, Tryd.func63.trans (congrArg some (by kernel_rfl))⟩
 f25 := ⟨Tryd.f64.name, by decide, Tryd.func64.trans (congrArg some (by kernel_rfl))⟩
 f26 := ⟨Tryd.f65.name, by decide, Tryd.func65.trans (congrArg some (by kernel_rfl))⟩
 f27 := ⟨Tryd.f66.name, by decide, Tryd.func66.trans (congrArg some (by kernel_rfl))⟩
 f28 := Tryd.func67.trans (congrArg some (by kernel_rfl))
 f29 := Tryd.func68.trans (congrArg some (by kernel_rfl))
 f46 := ⟨Tryd.f69.name, by decide, Tryd.func69.trans (congrArg some (by kernel_rfl))⟩
 f47 := Tryd.func70.trans (congrArg some (by kernel_rfl))
 f48 := Tryd.func71.trans (congrArg some (by kernel_rfl))
 f49 := ⟨Tryd.f72.name, by decide, Tryd.func72.trans (congrArg some (by kernel_rfl))⟩
 f50 := ⟨Tryd.f73.name, by decide, Tryd.func73.trans (congrArg some (by kernel_rfl))⟩
 f57 := ⟨Tryd.f74.name, by decide, Tryd.func74.trans (congrArg some (by kernel_rfl))⟩
 t0 := Tryd.underlying0
 a0 := Tryd.isAgg0
 z0 := Tryd.sizeOf0
 v0 := Tryd.zeroValue0
 t3 := Tryd.underlying3
 a3 := Tryd.isAgg3
 z3 := Tryd.sizeOf3
 v3 := Tryd.zeroValue3
 t4 := Tryd.underlying4
 a4 := Tryd.isAgg4
 z4 := Tryd.sizeOf4
 v4 := Tryd.zeroValue4
 t5 := Tryd.underlying5
 a5 := Tryd.isAgg5
 z5 := Tryd.sizeOf5
 v5 := Tryd.zeroValue5
 t9 := Tryd.underlying9
 a9 := Tryd.isAgg9
 z9 := Tryd.sizeOf9
 v9 := Tryd.zeroValue9
 t22 := Tryd.underlying23
 a22 := Tryd.isAgg23
 z22 := Tryd.sizeOf23
 v22 := Tryd.zeroValue23
 t25 := Tryd.underlying112
 a25 := Tryd.isAgg112
 z25 := Tryd.sizeOf112
 v25 := Tryd.zeroValue112
 t39 := Tryd.underlying133
 a39 := Tryd.isAgg133
 z39 := Tryd.sizeOf133
 v39 := Tryd.zeroValue133
 t45 := Tryd.underlying136
 a45 := Tryd.isAgg136
 z45 := Tryd.sizeOf136
 v45 := Tryd.zeroValue136
 t46 := Tryd.underlying137
 a46 := Tryd.isAgg137
 z46 := Tryd.sizeOf137
 v46 := Tryd.zeroValue137
 t50 := Tryd.underlying141
 a50 := Tryd.isAgg141
 z50 := Tryd.sizeOf141
 v50 := Tryd.zeroValue141
 t53 := Tryd.underlying144
 a53 := Tryd.isAgg144
 z53 := Tryd.sizeOf144
 v53 := Tryd.zeroValue144
 t55 := Tryd.underlying146
 a55 := Tryd.isAgg146
 z55 := Tryd.sizeOf146
 v55 := Tryd.zeroValue146
 t66 := Tryd.underlying147
 a66 := Tryd.isAgg147
 z66 := Tryd.sizeOf147
 v66 := Tryd.zeroValue147
 t70 := Tryd.underlying151
 a70 := Tryd.isAgg151
 z70 := Tryd.sizeOf151
 v70 := Tryd.zeroValue151
 t76 := Tryd.underlying153
 a76 := Tryd.isAgg153
 z76 := Tryd.sizeOf153
 v76 := Tryd.zeroValue153
 t77 := Tryd.underlying154
 a77 := Tryd.isAgg154
 z77 := Tryd.sizeOf154
 v77 := Tryd.zeroValue154 }
end Go.Proofs


namespace Go.Proofs.YtingoaihnlhiaaaDoor
open Go.RowKit
variable [Atj]
set_option linter.unusedSectionVars false
set_option linter.unusedVariables false

theorem AJS {P : Program} {c : Ctx} {w : World} {l : List UInt8} {v : Value} (h : Rep c w (slB l) v) : (Extern.Bytes.bytesOf v).run P w = .ok ⟨l.toArray⟩ w := by
 obtain ⟨hw, hr⟩ := h.sl
 rcases hr with ⟨he, ad, cap, rfl, _⟩ | ⟨b, off, cap, us, rfl, h3, h4, h5, h6, h7⟩
 ·have hl : l = [] := by simpa using he
  subst hl
  cases ad with
  | none => rfl
  | some a => rfl
 ·have hb := Ay4 (fun y hy => by obtain ⟨b, _, rfl⟩ := List.mem_map.1 hy; exact AKm b) h6
  rw [AEg] at hb
  have hl := Lib.run_loadBytesX (P := P) w (l.map fun b : UInt8 => (b.toNat : Int)) ⟨b, off, none⟩ .empty (fun j x hj => by
   rw [Aut]
   refine h7 j _ ?_
   rw [hb, List.getElem?_map]
   rw [List.getElem?_map] at hj
   cases hg : l[j]? with
   | none => rw [hg] at hj; cases hj
   | some y => rw [hg] at hj; cases hj; rfl)
  have e2 : Lib.bytesOf (l.map fun b : UInt8 => (b.toNat : Int)) = l := by simp [Lib.bytesOf, List.map_map, Function.comp_def]
  rw [e2] at hl
  simp only [List.length_map] at hl ⊢
  simp only [Extern.Bytes.bytesOf]
  rw [hl]
  congr 1
  apply ByteArray.ext
  show (#[] : Array UInt8) ++ l.toArray = l.toArray
  simp
theorem AH0 {P : Program} {w : World} {u v : Value} {a b : List UInt8} (h1 : (Extern.Bytes.bytesOf u).run P w = .ok ⟨a.toArray⟩ w) (h2 : (Extern.Bytes.bytesOf v).run P w = .ok ⟨b.toArray⟩ w) : (Extern.BytealgCompare.compare #[u, v]).run P w = .ok (.int .i64 (Lib.compareBytes a b)) w := by
 change Sem.run P (do pure (goInt (Extern.BytealgCompare.cmp (← Extern.Bytes.bytesOf u) (← Extern.Bytes.bytesOf v)))) w = _
 simp only [Sem.run_bind, Sem.run_pure, h1, h2, Result.andThen]
 rw [Lib.cmp_eq]
 rfl
set_option maxHeartbeats 2000000 in
set_option maxRecDepth 100000 in
theorem AJ2 (u v : Value) (z : Int) (w : World) (h : (Extern.BytealgCompare.compare #[u, v]).run Tryd.prog w = .ok (.int .i64 z) w) :
  Calls Tryd.prog 47 #[u, v] w fun e w' => e = .returned (.int .i64 z) ∧ w' = w := by
 go_enter Tryd.func47, Tryd.ntmps47
 go_wp2
 rw [run_callFunc_extern Tryd.func57 (by kernel_rfl) (by kernel_rfl) (by kernel_rfl) (e := Extern.BytealgCompare.compare) (by kernel_rfl), h]
 simp only [Result.andThen]
 rw [Oper.upon_value]
 go_wp2
 go_ret
 exact ⟨rfl, rfl⟩
theorem ATs (a b : List UInt8) : Awi Tryd.prog 47 [slB a, slB b] (fun x => x = .val (.int .i64 (Lib.compareBytes a b))) := by
 intro β F w vs hF hv
 obtain ⟨v, us, rfl, h1, hv⟩ := Atk.cons.1 hv
 obtain ⟨v2, us, rfl, h2, hv⟩ := Atk.cons.1 hv
 rw [Atk.nil] at hv; subst hv
 refine (AJ2 v v2 _ w (AH0 (AJS (Or.inl h1)) (AJS (Or.inl h2)))).mono ?_
 rintro e w' ⟨rfl, rfl⟩
 exact ⟨_, _, F, rfl, rfl, Rep.of_val, ⟨rfl, rfl, rfl, Nat.le_refl _, fun _ _ => rfl, fun _ h => h, fun _ _ h => h, hF.1⟩⟩
theorem AIY {P : Program} {W : World} {b n c : Nat} {t : TypeId} {fr : Nat × Nat} {l : List UInt8} (h : W.heap[b]? = some (.cells (l.map fun b => Value.int .u8 b.toNat).toArray t fr)) (hn : n = l.length) : (Extern.Bytes.bytesOf (.slice (some ⟨b, 0, none⟩) n c)).run P W = .ok ⟨l.toArray⟩ W := by
 subst hn
 have hc : At6 W b 0 (l.map fun b => Value.int .u8 b.toNat) := by
  have := Axe (w := W) (b := b) (pre := []) (a := []) (m := l.map fun b => Value.int .u8 b.toNat) (q := []) (post := []) (t := t) (fr := fr) (by simpa using h)
  simpa using this
 have hl := Lib.run_loadBytesX (P := P) W (l.map fun b : UInt8 => (b.toNat : Int)) ⟨b, 0, none⟩ .empty (fun j x hj => by
  rw [Aut]
  refine hc j _ ?_
  rw [List.getElem?_map] at hj ⊢
  cases hg : l[j]? with
  | none => rw [hg] at hj; cases hj
  | some y => rw [hg] at hj; cases hj; rfl)
 have e2 : Lib.bytesOf (l.map fun b : UInt8 => (b.toNat : Int)) = l := by simp [Lib.bytesOf, List.map_map, Function.comp_def]
 rw [e2] at hl
 simp only [List.length_map] at hl ⊢
 simp only [Extern.Bytes.bytesOf]
 rw [hl]
 congr 1
 apply ByteArray.ext
 show (#[] : Array UInt8) ++ l.toArray = l.toArray
 simp
theorem ARj {w : World} {o1 o2 : Obj} : ((w.alloc o1).alloc o2).heap[w.heap.size]? = some o1 ∧ ((w.alloc o1).alloc o2).heap[w.heap.size + 1]? = some o2 := by
 constructor
 ·show ((w.heap.push o1).push o2)[w.heap.size]? = some o1
  rw [Array.getElem?_push, if_neg (by simp), Array.getElem?_push, if_pos rfl]
 ·show ((w.heap.push o1).push o2)[w.heap.size + 1]? = some o2
  rw [Array.getElem?_push, if_pos (by simp)]
theorem ARH {w : World} {o1 o2 : Obj} : ((w.alloc o1).alloc o2).drew = Sort.grow (w.drewN 1) #[o1, o2] := by
 have e : w.heap ++ #[o1, o2] = (w.heap.push o1).push o2 := by apply Array.ext'; simp
 show _ = { w.drewN 1 with heap := w.heap ++ #[o1, o2] }
 rw [e]; rfl
set_option maxHeartbeats 2000000 in
set_option maxRecDepth 100000 in
theorem AR9 (x y : AOP) (w : World) : Calls Tryd.prog 46 #[.agg (AHG x).toArray, .agg (AHG y).toArray] w fun e w' => e = .returned (.int .i64 (AOU x y)) ∧ ∃ q os', w' = Sort.grow (w.drewN q) os' := by
 have hcon : ∀ (t1 t2 : TypeId) (W : World), W.heap = ((w.alloc (.cells (AHG x).toArray t1)).alloc (.cells (AHG y).toArray t2)).heap → Calls Tryd.prog 47 #[.slice (some ⟨w.heap.size, 0, none⟩) 20 20, .slice (some ⟨w.heap.size + 1, 0, none⟩) 20 20] W fun e w' => e = .returned (.int .i64 (AOU x y)) ∧ w' = W :=
  fun t1 t2 W hW => AJ2 _ _ _ W (AH0 (AIY (by rw [hW]; exact ARj.1) x.2.symm) (AIY (by rw [hW]; exact ARj.2) y.2.symm))
 generalize AOU x y = z at *
 generalize (AHG x).toArray = xs at *
 generalize (AHG y).toArray = ys at *
 go_enter Tryd.func46, Tryd.ntmps46
 go_wp2
 go_region_with (go_at_call 47; refine Calls.mono (hcon 40 40 _ (by rfl)) ?_; rintro e w' ⟨rfl, rfl⟩)
 go_wp2
 go_ret
 exact ⟨rfl, 1, #[.cells xs 40, .cells ys 40], ARH⟩
/-- slices.SortFunc, at the ids of a row of one's own. -/
theorem A0M {id ver N cp : Nat} {d : List (List UInt8)} {H : List Ob} {K : TV → List Ob → Prop} (hid : H[id]? = some (.obj ver (.arr N 20 (d.map idT)))) (hb : d.length ≤ 100000)
  (hK : K (.tup []) (H.set id (.obj ver (.arr N 20 ((Axv d).map idT))))) : AsZ Tryd.prog 45 [.os 20 id ver [] 0 d.length cp, .val (.func (.func 46) #[] #[])] H K := by
 have e : (fun l : List UInt8 => TV.arr 20 1 (l.map by8)) = idT := by funext l; exact As9.symm
 refine ARw Tryd.sortL (fun w => Tryd.isAgg40 w) (fun w => Tryd.sizeOf40 w) (g := 46) (cb := #[]) (rest := []) (d := d) (enters_of Tryd.func46 (by kernel_rfl) rfl) (fun x y w => AR9 x y w) (fun c w v h => ?_) (by rw [hid, e, List.append_nil]) rfl (by omega) (by rw [e, List.append_nil]; exact hK)
 exact Rep.val.1 (Or.inl h)
end Go.Proofs.YtingoaihnlhiaaaDoor


namespace Go.Proofs.YtingoaihnlhiaaaDoor
variable [Atj]
set_option linter.unusedSectionVars false
set_option linter.unusedVariables false
set_option linter.defProp false
set_option maxRecDepth 100000

def Awz : AsQ := .seq (.seq (.ops [mv_ 9 3,
  po_ 10 (.bin 3 .geq (.t 9) (ci_ 0))] [0, 2, 3, 10])
 (.cond (.t 10)
 (.skip)
 (.exit 0)))
 (.seq (.block 1 (.ops [mv_ 13 0,
  mv_ 14 3,
  mv_ 15 2,
  so_ 16 (.call 39 [.t 13, .t 14, .t 15])] [0, 2, 3]))
 (.ops [mv_ 11 3,
  po_ 12 (.bin 3 .sub (.t 11) (ci_ 1)),
  mv_ 3 12] [0, 2, 3]))
def AwG : AsQ := .seq (.ops [mv_ 6 2,
  po_ 7 (.bin 3 .quo (.t 6) (ci_ 2)),
  po_ 8 (.bin 3 .sub (.t 7) (ci_ 1)),
  mv_ 3 8] [0, 2, 3])
 (.block 0 (.loop [0, 2, 3] Awz))
def Ayt : AsQ := .seq (.ops [mv_ 4 0,
  so_ 5 (.inv (.t 4) "Len" []),
  mv_ 2 5] [0, 2])
 AwG
def AyB : List VR := []
theorem AD9 : Tryd.f22.body.bind (trC Tryd.prog Tryd.f22.ntmps) = some (er Ayt) := by kernel_rfl
theorem ADA : trR Tryd.prog Tryd.f22.results.toList = some AyB := by kernel_rfl
def AzM := AsN Awz.eq_1
def AzD := AsN AwG.eq_1
def ABX := AsN Ayt.eq_1
theorem AB3 {K : TV → Prop} {e : Env} {H : List Ob} : res AyB e H K = res [] e H K := AsM rfl
def AtU := (And.intro (And.intro @AzM @AzD) (And.intro @ABX @AB3))
def ACZ := AvA 17 Tryd.func22 AD9 ADA rfl

def AwL : AsQ := .seq (.seq (.ops [mv_ 23 8,
  po_ 24 (.bin 3 .add (.t 23) (ci_ 1)),
  mv_ 10 24] [0, 1, 2, 7, 8, 9, 10])
 (.seq (.ops [mv_ 25 10,
  mv_ 26 2,
  po_ 27 (.bin 3 .lss (.t 25) (.t 26)),
  mv_ 28 27,
  ⟨some 29, .p (.mov (.t 0)), some ⟨28, true⟩⟩,
  ⟨some 30, .p (.mov (.t 10)), some ⟨28, true⟩⟩,
  ⟨some 31, .p (.mov (.t 8)), some ⟨28, true⟩⟩,
  ⟨some 32, .s (.inv (.t 29) "Less" [.t 30, .t 31]), some ⟨28, true⟩⟩,
  po_ 33 (.pick (.t 28) (.t 32) (.c (.bool false)))] [0, 1, 2, 7, 9, 10, 33])
 (.cond (.t 33)
 (.ops [mv_ 34 10,
   mv_ 9 34] [0, 1, 2, 7, 9])
 (.skip))))
 (.seq (.seq (.ops [mv_ 35 0,
  mv_ 36 9,
  mv_ 37 7,
  so_ 38 (.inv (.t 35) "Less" [.t 36, .t 37]),
  po_ 39 (.un .not (.t 38))] [0, 1, 2, 7, 9, 39])
 (.cond (.t 39)
 (.exit 0)
 (.skip)))
 (.seq (.ops [mv_ 40 0,
  mv_ 41 7,
  mv_ 42 9,
  so_ 43 (.inv (.t 40) "Swap" [.t 41, .t 42])] [0, 1, 2, 9])
 (.ops [mv_ 44 9,
  mv_ 7 44] [0, 1, 2, 7])))
def AwI : AsQ := .seq (.ops [mv_ 22 8,
  mv_ 9 22] [0, 1, 2, 7, 8, 9])
 AwL
def AwF : AsQ := .seq (.seq (.ops [mv_ 15 8,
  mv_ 16 2,
  po_ 17 (.bin 3 .geq (.t 15) (.t 16)),
  mv_ 18 17,
  ⟨some 19, .p (.mov (.t 8)), some ⟨18, false⟩⟩,
  ⟨some 20, .p (.bin 3 .lss (.t 19) (ci_ 0)), some ⟨18, false⟩⟩,
  po_ 21 (.pick (.t 18) (.c (.bool true)) (.t 20))] [0, 1, 2, 7, 8, 21])
 (.cond (.t 21)
 (.exit 0)
 (.skip)))
 AwI
def AwK : AsQ := .block 1 (.seq (.ops [mv_ 12 7,
  po_ 13 (.bin 3 .mul (ci_ 2) (.t 12)),
  po_ 14 (.bin 3 .add (.t 13) (ci_ 1)),
  mv_ 8 14] [0, 1, 2, 7, 8])
 AwF)
def AwM : AsQ := .seq (.ops [mv_ 45 7,
  mv_ 46 1,
  po_ 47 (.bin 3 .gtr (.t 45) (.t 46)),
  mv_ 6 47] [6])
 (.ret)
def AwE : AsQ := .seq (.block 0 (.loop [0, 1, 2, 7] AwK))
 AwM
def Awy : AsQ := .seq (.ops [mv_ 11 1,
  mv_ 7 11] [0, 1, 2, 7])
 AwE
def Ax3 : AsQ := .seq (.ops [po_ 6 (.mov (.c (.bool false)))] [0, 1, 2])
 Awy
def AyD : List VR := [.tmp 6]
theorem ADm : Tryd.f39.body.bind (trC Tryd.prog Tryd.f39.ntmps) = some (er Ax3) := by kernel_rfl
theorem ADl : trR Tryd.prog Tryd.f39.results.toList = some AyD := by kernel_rfl
def AzE := AsN AwL.eq_1
def AzK := AsN AwI.eq_1
def AzF := AsN AwF.eq_1
def AzC := AsN AwK.eq_1
def AzH := AsN AwM.eq_1
def AzI := AsN AwE.eq_1
def AzG := AsN Awy.eq_1
def ABH := AsN Ax3.eq_1
theorem ABv {K : TV → Prop} {e : Env} {H : List Ob} : res AyD e H K = res [.tmp 6] e H K := AsM rfl
def As1 := (And.intro (And.intro (And.intro (And.intro @AzE @AzK) (And.intro @AzF @AzC)) (And.intro (And.intro @AzH @AzI) (And.intro @AzG @ABH))) @ABv)
def AC2 := AvA 48 Tryd.func39 ADm ADl rfl

def AxH : AsQ := .seq (.seq (.ops [mv_ 8 4,
  mv_ 9 1,
  po_ 10 (.bin 3 .eql (.t 8) (.t 9)),
  mv_ 11 10,
  ⟨some 12, .p (.mov (.t 0)), some ⟨11, false⟩⟩,
  ⟨some 13, .p (.mov (.t 1)), some ⟨11, false⟩⟩,
  ⟨some 14, .p (.mov (.t 4)), some ⟨11, false⟩⟩,
  ⟨some 15, .s (.inv (.t 12) "Less" [.t 13, .t 14]), some ⟨11, false⟩⟩,
  ⟨some 16, .p (.un .not (.t 15)), some ⟨11, false⟩⟩,
  po_ 17 (.pick (.t 11) (.c (.bool true)) (.t 16))] [0, 1, 4, 17])
 (.cond (.t 17)
 (.exit 0)
 (.skip)))
 (.seq (.ops [mv_ 18 0,
  mv_ 19 4,
  mv_ 20 1,
  so_ 21 (.inv (.t 18) "Swap" [.t 19, .t 20])] [0, 4])
 (.ops [mv_ 22 4,
  mv_ 1 22] [0, 1]))
def AxD : AsQ := .block 1 (.seq (.ops [mv_ 5 1,
  po_ 6 (.bin 3 .sub (.t 5) (ci_ 1)),
  po_ 7 (.bin 3 .quo (.t 6) (ci_ 2)),
  mv_ 4 7] [0, 1, 4])
 AxH)
def Azx : AsQ := .block 0 (.loop [0, 1] AxD)
def Azc : List VR := []
theorem AFC : Tryd.f40.body.bind (trC Tryd.prog Tryd.f40.ntmps) = some (er Azx) := by kernel_rfl
theorem AE4 : trR Tryd.prog Tryd.f40.results.toList = some Azc := by kernel_rfl
def AAG := AsN AxH.eq_1
def ABb := AsN AxD.eq_1
def ADT := AsN Azx.eq_1
theorem ADR {K : TV → Prop} {e : Env} {H : List Ob} : res Azc e H K = res [] e H K := AsM rfl
def AtN := (And.intro (And.intro @AAG @ABb) (And.intro @ADT @ADR))
def AEm := AvA 23 Tryd.func40 AFC AE4 rfl

def Axm : AsQ := .seq (.ops [mv_ 4 0,
  so_ 5 (.inv (.t 4) "Len" []),
  po_ 6 (.bin 3 .sub (.t 5) (ci_ 1)),
  mv_ 3 6] [0, 3])
 (.seq (.ops [mv_ 7 0,
  mv_ 8 3,
  so_ 9 (.inv (.t 7) "Swap" [.c (.int .i64 ((0 : Nat) : Int)), .t 8])] [0, 3])
 (.seq (.ops [mv_ 10 0,
  mv_ 11 3,
  so_ 12 (.call 39 [.t 10, .c (.int .i64 ((0 : Nat) : Int)), .t 11])] [0])
 (.seq (.ops [mv_ 13 0,
  so_ 14 (.inv (.t 13) "Pop" []),
  mv_ 2 14] [2])
 (.ret))))
def AyV : AsQ := .seq (.ops [po_ 2 (.mov (.c .nilIface))] [0])
 Axm
def AyZ : List VR := [.tmp 2]
theorem AEl : Tryd.f24.body.bind (trC Tryd.prog Tryd.f24.ntmps) = some (er AyV) := by kernel_rfl
theorem AEt : trR Tryd.prog Tryd.f24.results.toList = some AyZ := by kernel_rfl
def AAe := AsN Axm.eq_1
def AC1 := AsN AyV.eq_1
theorem ACW {K : TV → Prop} {e : Env} {H : List Ob} : res AyZ e H K = res [.tmp 2] e H K := AsM rfl
def At5 := (And.intro (And.intro @AAe @AC1) @ACW)
def ADp := AvA 15 Tryd.func24 AEl AEt rfl

def Ayz : AsQ := .seq (.ops [mv_ 4 0,
  mv_ 5 1,
  so_ 6 (.inv (.t 4) "Push" [.t 5])] [0])
 (.ops [mv_ 7 0,
  mv_ 8 0,
  so_ 9 (.inv (.t 8) "Len" []),
  po_ 10 (.bin 3 .sub (.t 9) (ci_ 1)),
  so_ 11 (.call 40 [.t 7, .t 10])] [])
def Ayv : List VR := []
theorem ADv : Tryd.f26.body.bind (trC Tryd.prog Tryd.f26.ntmps) = some (er Ayz) := by kernel_rfl
theorem AD4 : trR Tryd.prog Tryd.f26.results.toList = some Ayv := by kernel_rfl
def ABK := AsN Ayz.eq_1
theorem ABF {K : TV → Prop} {e : Env} {H : List Ob} : res Ayv e H K = res [] e H K := AsM rfl
def AuW := (And.intro @ABK @ABF)
def AC3 := AvA 12 Tryd.func26 ADv AD4 rfl

def AAo : AsQ := .seq (.ops [po_ 2 (.mov (ci_ 0))] [0])
 (.seq (.ops [mv_ 3 0,
  po_ 4 (.lenV (.t 3)),
  mv_ 2 4] [2])
 (.ret))
def ABl : List VR := [.tmp 2]
theorem AHx : Tryd.f23.body.bind (trC Tryd.prog Tryd.f23.ntmps) = some (er AAo) := by kernel_rfl
theorem AHP : trR Tryd.prog Tryd.f23.results.toList = some ABl := by kernel_rfl
def AE6 := AsN AAo.eq_1
theorem AE1 {K : TV → Prop} {e : Env} {H : List Ob} : res ABl e H K = res [.tmp 2] e H K := AsM rfl
def AG9 := (And.intro @AE6 @AE1)
def AF1 := AvA 5 Tryd.func23 AHx AHP rfl

def Ayb : AsQ := .seq (.draw 21 [mv_ 7 0,
  mv_ 8 2,
  po_ 9 (.idxA 22 (.t 7) (.t 8)),
  po_ 10 (.fieldA 2 21 (.t 9)),
  po_ 11 (.load false 1 (.t 10)),
  mv_ 12 0,
  mv_ 13 1,
  po_ 14 (.idxA 22 (.t 12) (.t 13)),
  po_ 15 (.fieldA 2 21 (.t 14)),
  po_ 16 (.load false 1 (.t 15)),
  so_ 17 (.call 99 [.t 11, .t 16]),
  mv_ 18 0,
  mv_ 19 2,
  po_ 20 (.idxA 22 (.t 18) (.t 19)),
  po_ 21 (.fieldA 0 0 (.t 20)),
  po_ 22 (.slA 20 1 (.t 21) none none),
  mv_ 23 0,
  mv_ 24 1,
  po_ 25 (.idxA 22 (.t 23) (.t 24)),
  po_ 26 (.fieldA 0 0 (.t 25)),
  po_ 27 (.slA 20 1 (.t 26) none none),
  so_ 28 (.call 47 [.t 22, .t 27]),
  ⟨some 29, .s (.bslice 1 2 (.val (.int .i64 ((0 : Nat) : Int))) [⟨0, .t 17⟩, ⟨1, .t 28⟩]), none⟩,
  so_ 30 (.call 98 [.t 29]),
  po_ 31 (.bin 3 .lss (.t 30) (ci_ 0)),
  mv_ 6 31] [6])
 (.ret)
def Az8 : AsQ := .seq (.ops [po_ 6 (.mov (.c (.bool false)))] [0, 1, 2])
 Ayb
def Az1 : List VR := [.tmp 6]
theorem AGB : Tryd.f94.body.bind (trC Tryd.prog Tryd.f94.ntmps) = some (er Az8) := by kernel_rfl
theorem AGw : trR Tryd.prog Tryd.f94.results.toList = some Az1 := by kernel_rfl
def ABr := AsN Ayb.eq_1
def AEC := AsN Az8.eq_1
theorem AEB {K : TV → Prop} {e : Env} {H : List Ob} : res Az1 e H K = res [.tmp 6] e H K := AsM rfl
def Avz := (And.intro (And.intro @ABr @AEC) @AEB)
def AFF := AvA 32 Tryd.func94 AGB AGw rfl

def AzW : AsQ := .draw 8 [mv_ 6 0,
  mv_ 7 1,
  mv_ 8 0,
  mv_ 9 2,
  mv_ 10 0,
  mv_ 11 2,
  po_ 12 (.idxA 22 (.t 10) (.t 11)),
  po_ 13 (.load true 22 (.t 12)),
  mv_ 14 0,
  mv_ 15 1,
  po_ 16 (.idxA 22 (.t 14) (.t 15)),
  po_ 17 (.load true 22 (.t 16)),
  po_ 18 (.idxA 22 (.t 6) (.t 7)),
  ⟨none, .s (.store 22 (.t 18) (.t 13)), none⟩,
  po_ 19 (.idxA 22 (.t 8) (.t 9)),
  ⟨none, .s (.store 22 (.t 19) (.t 17)), none⟩] []
def AzS : List VR := []
theorem AG0 : Tryd.f97.body.bind (trC Tryd.prog Tryd.f97.ntmps) = some (er AzW) := by kernel_rfl
theorem AFW : trR Tryd.prog Tryd.f97.results.toList = some AzS := by kernel_rfl
def AEp := AsN AzW.eq_1
theorem AEr {K : TV → Prop} {e : Env} {H : List Ob} : res AzS e H K = res [] e H K := AsM rfl
def AG3 := (And.intro @AEp @AEr)
def AFz := AvA 20 Tryd.func97 AG0 AFW rfl

def AzP : AsQ := .draw 4 [mv_ 4 0,
  mv_ 5 0,
  po_ 6 (.nilc (.t 5)),
  po_ 7 (.load false 1 (.t 6)),
  mv_ 8 1,
  po_ 9 (.gen (.tas 51) [.t 8]),
  ⟨some 10, .s (.bslice 22 1 (.agg [.arr 20 1 [.val (.int .u8 ((0 : Nat) : Int)), .val (.int .u8 ((0 : Nat) : Int)), .val (.int .u8 ((0 : Nat) : Int)), .val (.int .u8 ((0 : Nat) : Int)), .val (.int .u8 ((0 : Nat) : Int)), .val (.int .u8 ((0 : Nat) : Int)), .val (.int .u8 ((0 : Nat) : Int)), .val (.int .u8 ((0 : Nat) : Int)), .val (.int .u8 ((0 : Nat) : Int)), .val (.int .u8 ((0 : Nat) : Int)), .val (.int .u8 ((0 : Nat) : Int)), .val (.int .u8 ((0 : Nat) : Int)), .val (.int .u8 ((0 : Nat) : Int)), .val (.int .u8 ((0 : Nat) : Int)), .val (.int .u8 ((0 : Nat) : Int)), .val (.int .u8 ((0 : Nat) : Int)), .val (.int .u8 ((0 : Nat) : Int)), .val (.int .u8 ((0 : Nat) : Int)), .val (.int .u8 ((0 : Nat) : Int)), .val (.int .u8 ((0 : Nat) : Int))], .val (.slice none 0 0), .val (.int .i64 ((0 : Nat) : Int))]) [⟨0, .t 9⟩]), none⟩,
  so_ 11 (.app 22 56 51 (.t 7) (.t 10)),
  po_ 12 (.nilc (.t 4)),
  ⟨none, .s (.store 1 (.t 12) (.t 11)), none⟩] []
def Az6 : List VR := []
theorem AGm : Tryd.f96.body.bind (trC Tryd.prog Tryd.f96.ntmps) = some (er AzP) := by kernel_rfl
theorem AFT : trR Tryd.prog Tryd.f96.results.toList = some Az6 := by kernel_rfl
def AEy := AsN AzP.eq_1
theorem AEx {K : TV → Prop} {e : Env} {H : List Ob} : res Az6 e H K = res [] e H K := AsM rfl
def AGU := (And.intro @AEy @AEx)
def AFs := AvA 13 Tryd.func96 AGm AFT rfl

def AyO : AsQ := .seq (.ops [mv_ 8 3,
  mv_ 9 3,
  po_ 10 (.lenV (.t 9)),
  po_ 11 (.bin 3 .sub (.t 10) (ci_ 1)),
  po_ 12 (.idxA 22 (.t 8) (.t 11)),
  po_ 13 (.load true 22 (.t 12)),
  so_ 4 (.alloc (.agg [.arr 20 1 [.val (.int .u8 ((0 : Nat) : Int)), .val (.int .u8 ((0 : Nat) : Int)), .val (.int .u8 ((0 : Nat) : Int)), .val (.int .u8 ((0 : Nat) : Int)), .val (.int .u8 ((0 : Nat) : Int)), .val (.int .u8 ((0 : Nat) : Int)), .val (.int .u8 ((0 : Nat) : Int)), .val (.int .u8 ((0 : Nat) : Int)), .val (.int .u8 ((0 : Nat) : Int)), .val (.int .u8 ((0 : Nat) : Int)), .val (.int .u8 ((0 : Nat) : Int)), .val (.int .u8 ((0 : Nat) : Int)), .val (.int .u8 ((0 : Nat) : Int)), .val (.int .u8 ((0 : Nat) : Int)), .val (.int .u8 ((0 : Nat) : Int)), .val (.int .u8 ((0 : Nat) : Int)), .val (.int .u8 ((0 : Nat) : Int)), .val (.int .u8 ((0 : Nat) : Int)), .val (.int .u8 ((0 : Nat) : Int)), .val (.int .u8 ((0 : Nat) : Int))], .val (.slice none 0 0), .val (.int .i64 ((0 : Nat) : Int))])),
  ⟨none, .s (.store 22 (.t 4) (.t 13)), none⟩] [0, 3, 4])
 (.seq (.ops [mv_ 14 0,
  mv_ 15 3,
  mv_ 16 3,
  po_ 17 (.lenV (.t 16)),
  po_ 18 (.bin 3 .sub (.t 17) (ci_ 1)),
  po_ 19 (.slV 22 (.t 15) none (some (.t 18))),
  po_ 20 (.nilc (.t 14)),
  ⟨none, .s (.store 1 (.t 20) (.t 19)), none⟩] [4])
 (.seq (.ops [po_ 21 (.load true 22 (.t 4)),
  po_ 22 (.iface 51 (.t 21)),
  mv_ 2 22] [2])
 (.ret)))
def Ay0 : AsQ := .seq (.ops [mv_ 5 0,
  po_ 6 (.nilc (.t 5)),
  po_ 7 (.load false 1 (.t 6)),
  mv_ 3 7] [0, 3])
 AyO
def AAX : AsQ := .seq (.ops [po_ 2 (.mov (.c .nilIface))] [0])
 Ay0
def AAO : List VR := [.tmp 2]
theorem AHF : Tryd.f95.body.bind (trC Tryd.prog Tryd.f95.ntmps) = some (er AAX) := by kernel_rfl
theorem AHz : trR Tryd.prog Tryd.f95.results.toList = some AAO := by kernel_rfl
def ADa := AsN AyO.eq_1
def AC9 := AsN Ay0.eq_1
def AFc := AsN AAX.eq_1
theorem AFr {K : TV → Prop} {e : Env} {H : List Ob} : res AAO e H K = res [.tmp 2] e H K := AsM rfl
def AHd := (And.intro (And.intro @ADa @AC9) (And.intro @AFc @AFr))
def AGh := AvA 23 Tryd.func95 AHF AHz rfl

def ADZ : AsQ := .seq (.ops [po_ 9 (.bin 3 .lss (.t 8) (.t 7))] [3, 6, 7, 8, 9])
 (.seq (.cond (.t 9)
 (.skip)
 (.exit 0))
 (.seq (.block 1 (.seq (.ops [po_ 10 (.idxA 1 (.t 6) (.t 8)),
  po_ 11 (.load false 1 (.t 10)),
  mv_ 5 11] [3, 5, 6, 7, 8])
 (.seq (.ops [mv_ 12 5,
  mv_ 13 3,
  po_ 14 (.bin 3 .neq (.t 12) (.t 13))] [3, 5, 6, 7, 8, 14])
 (.cond (.t 14)
 (.seq (.ops [mv_ 15 5,
   mv_ 2 15] [2])
  (.ret))
 (.skip)))))
 (.ops [po_ 16 (.bin 3 .add (.t 8) (ci_ 1)),
  mv_ 8 16] [3, 6, 7, 8])))
def ADn : AsQ := .seq (.ops [mv_ 17 3,
  mv_ 2 17] [2])
 (.ret)
def ADy : AsQ := .seq (.seq (.ops [mv_ 6 0,
  po_ 7 (.lenV (.t 6)),
  po_ 8 (.mov (ci_ 0))] [3, 6, 7, 8])
 (.block 0 (.loop [3, 6, 7, 8] ADZ)))
 ADn
def ADE : AsQ := .seq (.ops [po_ 3 (.mov (ci_ 0))] [0, 3])
 ADy
def AH7 : AsQ := .seq (.ops [po_ 2 (.mov (ci_ 0))] [0])
 ADE
def AH4 : List VR := [.tmp 2]
theorem ALq : Tryd.f98.body.bind (trC Tryd.prog Tryd.f98.ntmps) = some (er AH7) := by kernel_rfl
theorem ALu : trR Tryd.prog Tryd.f98.results.toList = some AH4 := by kernel_rfl
def AHb := AsN ADZ.eq_1
def AHg := AsN ADn.eq_1
def AHy := AsN ADy.eq_1
def AHl := AsN ADE.eq_1
def AJq := AsN AH7.eq_1
theorem AJs {K : TV → Prop} {e : Env} {H : List Ob} : res AH4 e H K = res [.tmp 2] e H K := AsM rfl
def AwN := (And.intro (And.intro (And.intro @AHb @AHg) (And.intro @AHy @AHl)) (And.intro @AJq @AJs))
def AKH := AvA 18 Tryd.func98 ALq ALu rfl

def AxA : AsQ := .seq (.seq (.ops [mv_ 11 5] [0, 1, 6, 11])
 (.cond (.t 11)
 (.seq (.seq (.ops [mv_ 12 6] [12])
  (.cond (.t 12)
  (.seq (.ops [po_ 4 (.mov (ci_ 0))] [4])
   (.ret))
  (.skip)))
  (.seq (.ops [po_ 4 (.mov (.c (.int .i64 (-1))))] [4])
  (.ret)))
 (.skip)))
 (.seq (.seq (.ops [mv_ 13 6] [0, 1, 13])
 (.cond (.t 13)
 (.seq (.ops [po_ 4 (.mov (ci_ 1))] [4])
  (.ret))
 (.skip)))
 (.seq (.seq (.ops [mv_ 14 0,
  mv_ 15 1,
  po_ 16 (.bin 2 .lss (.t 14) (.t 15))] [0, 1, 16])
 (.cond (.t 16)
 (.seq (.ops [po_ 4 (.mov (.c (.int .i64 (-1))))] [4])
  (.ret))
 (.skip)))
 (.seq (.seq (.ops [mv_ 17 0,
  mv_ 18 1,
  po_ 19 (.bin 2 .gtr (.t 17) (.t 18))] [19])
 (.cond (.t 19)
 (.seq (.ops [po_ 4 (.mov (ci_ 1))] [4])
  (.ret))
 (.skip)))
 (.seq (.ops [po_ 4 (.mov (ci_ 0))] [4])
 (.ret)))))
def AxC : AsQ := .seq (.ops [mv_ 9 1,
  so_ 10 (.call 100 [.t 9]),
  mv_ 6 10] [0, 1, 5, 6])
 AxA
def AxE : AsQ := .seq (.ops [mv_ 7 0,
  so_ 8 (.call 100 [.t 7]),
  mv_ 5 8] [0, 1, 5])
 AxC
def Azf : AsQ := .seq (.ops [po_ 4 (.mov (ci_ 0))] [0, 1])
 AxE
def Azd : List VR := [.tmp 4]
theorem AFm : Tryd.f99.body.bind (trC Tryd.prog Tryd.f99.ntmps) = some (er Azf) := by kernel_rfl
theorem AES : trR Tryd.prog Tryd.f99.results.toList = some Azd := by kernel_rfl
def ABn := AsN AxA.eq_1
def AAU := AsN AxC.eq_1
def AAs := AsN AxE.eq_1
def ADW := AsN Azf.eq_1
theorem AD1 {K : TV → Prop} {e : Env} {H : List Ob} : res Azd e H K = res [.tmp 4] e H K := AsM rfl
def Aun := (And.intro (And.intro (And.intro @ABn @AAU) (And.intro @AAs @ADW)) @AD1)
def AEA := AvA 20 Tryd.func99 AFm AES rfl

def ABo : AsQ := .seq (.ops [po_ 2 (.mov (.c (.bool false)))] [0])
 (.seq (.ops [mv_ 3 0,
  mv_ 4 0,
  po_ 5 (.bin 2 .neq (.t 3) (.t 4)),
  mv_ 2 5] [2])
 (.ret))
def AAH : List VR := [.tmp 2]
theorem AHp : Tryd.f100.body.bind (trC Tryd.prog Tryd.f100.ntmps) = some (er ABo) := by kernel_rfl
theorem AHM : trR Tryd.prog Tryd.f100.results.toList = some AAH := by kernel_rfl
def AEQ := AsN ABo.eq_1
theorem AE3 {K : TV → Prop} {e : Env} {H : List Ob} : res AAH e H K = res [.tmp 2] e H K := AsM rfl
def AG5 := (And.intro @AEQ @AE3)
def AGt := AvA 6 Tryd.func100 AHp AHM rfl

def ACR : AsQ := .seq (.ops [so_ 43 (.nxtM (.t 42)),
  po_ 44 (.ext 0 (.t 43))] [8, 11, 42, 44])
 (.seq (.cond (.t 44)
 (.skip)
 (.exit 0))
 (.block 1 (.seq (.ops [po_ 45 (.gen .entM [.t 42]),
  po_ 46 (.ext 0 (.t 45)),
  so_ 12 (.alloc (.arr 20 1 [.val (.int .u8 ((0 : Nat) : Int)), .val (.int .u8 ((0 : Nat) : Int)), .val (.int .u8 ((0 : Nat) : Int)), .val (.int .u8 ((0 : Nat) : Int)), .val (.int .u8 ((0 : Nat) : Int)), .val (.int .u8 ((0 : Nat) : Int)), .val (.int .u8 ((0 : Nat) : Int)), .val (.int .u8 ((0 : Nat) : Int)), .val (.int .u8 ((0 : Nat) : Int)), .val (.int .u8 ((0 : Nat) : Int)), .val (.int .u8 ((0 : Nat) : Int)), .val (.int .u8 ((0 : Nat) : Int)), .val (.int .u8 ((0 : Nat) : Int)), .val (.int .u8 ((0 : Nat) : Int)), .val (.int .u8 ((0 : Nat) : Int)), .val (.int .u8 ((0 : Nat) : Int)), .val (.int .u8 ((0 : Nat) : Int)), .val (.int .u8 ((0 : Nat) : Int)), .val (.int .u8 ((0 : Nat) : Int)), .val (.int .u8 ((0 : Nat) : Int))])),
  ⟨none, .s (.store 20 (.t 12) (.t 46)), none⟩] [8, 11, 12, 42])
 (.ops [mv_ 47 11,
  po_ 48 (.load true 20 (.t 12)),
  ⟨none, .s (.delM (.arr 20) (.t 47) (.t 48)), none⟩] [8, 11, 42]))))
def ACv : AsQ := .seq (.block 5 (.seq (.ops [po_ 66 (.idxA 20 (.t 62) (.t 64)),
  po_ 67 (.load true 20 (.t 66)),
  so_ 16 (.alloc (.arr 20 1 [.val (.int .u8 ((0 : Nat) : Int)), .val (.int .u8 ((0 : Nat) : Int)), .val (.int .u8 ((0 : Nat) : Int)), .val (.int .u8 ((0 : Nat) : Int)), .val (.int .u8 ((0 : Nat) : Int)), .val (.int .u8 ((0 : Nat) : Int)), .val (.int .u8 ((0 : Nat) : Int)), .val (.int .u8 ((0 : Nat) : Int)), .val (.int .u8 ((0 : Nat) : Int)), .val (.int .u8 ((0 : Nat) : Int)), .val (.int .u8 ((0 : Nat) : Int)), .val (.int .u8 ((0 : Nat) : Int)), .val (.int .u8 ((0 : Nat) : Int)), .val (.int .u8 ((0 : Nat) : Int)), .val (.int .u8 ((0 : Nat) : Int)), .val (.int .u8 ((0 : Nat) : Int)), .val (.int .u8 ((0 : Nat) : Int)), .val (.int .u8 ((0 : Nat) : Int)), .val (.int .u8 ((0 : Nat) : Int)), .val (.int .u8 ((0 : Nat) : Int))])),
  ⟨none, .s (.store 20 (.t 16) (.t 67)), none⟩] [8, 11, 13, 16, 51, 62, 63, 64])
 (.draw 4 [mv_ 68 13,
  po_ 69 (.load true 20 (.t 16)),
  po_ 70 (.gen (.look (.arr 20) (.val (.int .i64 ((0 : Nat) : Int))) false) [.t 68, .t 69]),
  po_ 71 (.bin 3 .add (.t 70) (ci_ 1)),
  so_ 72 (.ment (.arr 20) (.val (.int .i64 ((0 : Nat) : Int))) (.t 68) (.t 69)),
  po_ 73 (.ext 1 (.t 72)),
  ⟨none, .s (.mest (.t 68) (.t 73) (.t 71)), none⟩] [8, 11, 13, 51, 62, 63, 64])))
 (.ops [po_ 74 (.bin 3 .add (.t 64) (ci_ 1)),
  mv_ 64 74] [8, 11, 13, 51, 62, 63, 64])
def ACc : AsQ := .seq (.cond (.t 65)
 (.skip)
 (.exit 4))
 ACv
def ACF : AsQ := .seq (.ops [po_ 65 (.bin 3 .lss (.t 64) (.t 63))] [8, 11, 13, 51, 62, 63, 64, 65])
 ACc
def ACE : AsQ := .block 4 (.loop [8, 11, 13, 51, 62, 63, 64] ACF)
def ACw : AsQ := .seq (.draw 8 [mv_ 56 8,
  po_ 57 (.nilc (.t 56)),
  po_ 58 (.fieldA 0 0 (.t 57)),
  po_ 59 (.load false 1 (.t 58)),
  po_ 60 (.load true 20 (.t 14)),
  po_ 61 (.gen (.look (.arr 20) (.agg [.arr 20 1 [.val (.int .u8 ((0 : Nat) : Int)), .val (.int .u8 ((0 : Nat) : Int)), .val (.int .u8 ((0 : Nat) : Int)), .val (.int .u8 ((0 : Nat) : Int)), .val (.int .u8 ((0 : Nat) : Int)), .val (.int .u8 ((0 : Nat) : Int)), .val (.int .u8 ((0 : Nat) : Int)), .val (.int .u8 ((0 : Nat) : Int)), .val (.int .u8 ((0 : Nat) : Int)), .val (.int .u8 ((0 : Nat) : Int)), .val (.int .u8 ((0 : Nat) : Int)), .val (.int .u8 ((0 : Nat) : Int)), .val (.int .u8 ((0 : Nat) : Int)), .val (.int .u8 ((0 : Nat) : Int)), .val (.int .u8 ((0 : Nat) : Int)), .val (.int .u8 ((0 : Nat) : Int)), .val (.int .u8 ((0 : Nat) : Int)), .val (.int .u8 ((0 : Nat) : Int)), .val (.int .u8 ((0 : Nat) : Int)), .val (.int .u8 ((0 : Nat) : Int))], .val (.slice none 0 0), .val (.int .i64 ((0 : Nat) : Int))]) false) [.t 59, .t 60]),
  po_ 62 (.field false 1 1 20 (.t 61)),
  po_ 63 (.lenV (.t 62)),
  po_ 64 (.mov (ci_ 0))] [8, 11, 13, 51, 62, 63, 64])
 ACE
def ACI : AsQ := .block 3 (.seq (.ops [po_ 54 (.gen .entM [.t 51]),
  po_ 55 (.ext 0 (.t 54)),
  so_ 14 (.alloc (.arr 20 1 [.val (.int .u8 ((0 : Nat) : Int)), .val (.int .u8 ((0 : Nat) : Int)), .val (.int .u8 ((0 : Nat) : Int)), .val (.int .u8 ((0 : Nat) : Int)), .val (.int .u8 ((0 : Nat) : Int)), .val (.int .u8 ((0 : Nat) : Int)), .val (.int .u8 ((0 : Nat) : Int)), .val (.int .u8 ((0 : Nat) : Int)), .val (.int .u8 ((0 : Nat) : Int)), .val (.int .u8 ((0 : Nat) : Int)), .val (.int .u8 ((0 : Nat) : Int)), .val (.int .u8 ((0 : Nat) : Int)), .val (.int .u8 ((0 : Nat) : Int)), .val (.int .u8 ((0 : Nat) : Int)), .val (.int .u8 ((0 : Nat) : Int)), .val (.int .u8 ((0 : Nat) : Int)), .val (.int .u8 ((0 : Nat) : Int)), .val (.int .u8 ((0 : Nat) : Int)), .val (.int .u8 ((0 : Nat) : Int)), .val (.int .u8 ((0 : Nat) : Int))])),
  ⟨none, .s (.store 20 (.t 14) (.t 55)), none⟩] [8, 11, 13, 14, 51])
 ACw)
def ACS : AsQ := .seq (.cond (.t 53)
 (.skip)
 (.exit 2))
 ACI
def ACs : AsQ := .seq (.ops [so_ 52 (.nxtM (.t 51)),
  po_ 53 (.ext 0 (.t 52))] [8, 11, 13, 51, 53])
 ACS
def AAA : AsQ := .block 2 (.loop [8, 11, 13, 51] ACs)
def ABg : AsQ := .draw 8 [mv_ 87 17,
  mv_ 88 17,
  po_ 89 (.nilc (.t 88)),
  po_ 90 (.load false 1 (.t 89)),
  mv_ 91 8,
  po_ 92 (.nilc (.t 91)),
  po_ 93 (.fieldA 0 0 (.t 92)),
  po_ 94 (.load false 1 (.t 93)),
  po_ 95 (.load true 20 (.t 18)),
  po_ 96 (.gen (.look (.arr 20) (.agg [.arr 20 1 [.val (.int .u8 ((0 : Nat) : Int)), .val (.int .u8 ((0 : Nat) : Int)), .val (.int .u8 ((0 : Nat) : Int)), .val (.int .u8 ((0 : Nat) : Int)), .val (.int .u8 ((0 : Nat) : Int)), .val (.int .u8 ((0 : Nat) : Int)), .val (.int .u8 ((0 : Nat) : Int)), .val (.int .u8 ((0 : Nat) : Int)), .val (.int .u8 ((0 : Nat) : Int)), .val (.int .u8 ((0 : Nat) : Int)), .val (.int .u8 ((0 : Nat) : Int)), .val (.int .u8 ((0 : Nat) : Int)), .val (.int .u8 ((0 : Nat) : Int)), .val (.int .u8 ((0 : Nat) : Int)), .val (.int .u8 ((0 : Nat) : Int)), .val (.int .u8 ((0 : Nat) : Int)), .val (.int .u8 ((0 : Nat) : Int)), .val (.int .u8 ((0 : Nat) : Int)), .val (.int .u8 ((0 : Nat) : Int)), .val (.int .u8 ((0 : Nat) : Int))], .val (.slice none 0 0), .val (.int .i64 ((0 : Nat) : Int))]) false) [.t 94, .t 95]),
  ⟨some 97, .s (.bslice 22 1 (.agg [.arr 20 1 [.val (.int .u8 ((0 : Nat) : Int)), .val (.int .u8 ((0 : Nat) : Int)), .val (.int .u8 ((0 : Nat) : Int)), .val (.int .u8 ((0 : Nat) : Int)), .val (.int .u8 ((0 : Nat) : Int)), .val (.int .u8 ((0 : Nat) : Int)), .val (.int .u8 ((0 : Nat) : Int)), .val (.int .u8 ((0 : Nat) : Int)), .val (.int .u8 ((0 : Nat) : Int)), .val (.int .u8 ((0 : Nat) : Int)), .val (.int .u8 ((0 : Nat) : Int)), .val (.int .u8 ((0 : Nat) : Int)), .val (.int .u8 ((0 : Nat) : Int)), .val (.int .u8 ((0 : Nat) : Int)), .val (.int .u8 ((0 : Nat) : Int)), .val (.int .u8 ((0 : Nat) : Int)), .val (.int .u8 ((0 : Nat) : Int)), .val (.int .u8 ((0 : Nat) : Int)), .val (.int .u8 ((0 : Nat) : Int)), .val (.int .u8 ((0 : Nat) : Int))], .val (.slice none 0 0), .val (.int .i64 ((0 : Nat) : Int))]) [⟨0, .t 96⟩]), none⟩,
  so_ 98 (.app 22 56 51 (.t 90) (.t 97)),
  po_ 99 (.nilc (.t 87)),
  ⟨none, .s (.store 1 (.t 99) (.t 98)), none⟩] [8, 11, 13, 17, 78]
def ABd : AsQ := .cond (.t 86)
 ABg
 (.skip)
def AA4 : AsQ := .seq (.ops [mv_ 83 13,
  po_ 84 (.load true 20 (.t 18)),
  po_ 85 (.gen (.look (.arr 20) (.val (.int .i64 ((0 : Nat) : Int))) false) [.t 83, .t 84]),
  po_ 86 (.bin 3 .eql (.t 85) (ci_ 0))] [8, 11, 13, 17, 18, 78, 86])
 ABd
def AAT : AsQ := .block 7 (.seq (.ops [po_ 81 (.gen .entM [.t 78]),
  po_ 82 (.ext 0 (.t 81)),
  so_ 18 (.alloc (.arr 20 1 [.val (.int .u8 ((0 : Nat) : Int)), .val (.int .u8 ((0 : Nat) : Int)), .val (.int .u8 ((0 : Nat) : Int)), .val (.int .u8 ((0 : Nat) : Int)), .val (.int .u8 ((0 : Nat) : Int)), .val (.int .u8 ((0 : Nat) : Int)), .val (.int .u8 ((0 : Nat) : Int)), .val (.int .u8 ((0 : Nat) : Int)), .val (.int .u8 ((0 : Nat) : Int)), .val (.int .u8 ((0 : Nat) : Int)), .val (.int .u8 ((0 : Nat) : Int)), .val (.int .u8 ((0 : Nat) : Int)), .val (.int .u8 ((0 : Nat) : Int)), .val (.int .u8 ((0 : Nat) : Int)), .val (.int .u8 ((0 : Nat) : Int)), .val (.int .u8 ((0 : Nat) : Int)), .val (.int .u8 ((0 : Nat) : Int)), .val (.int .u8 ((0 : Nat) : Int)), .val (.int .u8 ((0 : Nat) : Int)), .val (.int .u8 ((0 : Nat) : Int))])),
  ⟨none, .s (.store 20 (.t 18) (.t 82)), none⟩] [8, 11, 13, 17, 18, 78])
 AA4)
def AA8 : AsQ := .seq (.cond (.t 80)
 (.skip)
 (.exit 6))
 AAT
def AA1 : AsQ := .seq (.ops [so_ 79 (.nxtM (.t 78)),
  po_ 80 (.ext 0 (.t 79))] [8, 11, 13, 17, 78, 80])
 AA8
def AAP : AsQ := .block 6 (.ownB 17 [] 22 (.loop [8, 11, 13, 17, 78] AA1))
def ABc : AsQ := .draw 6 [mv_ 139 17,
  po_ 140 (.iface 64 (.t 139)),
  mv_ 141 8,
  po_ 142 (.nilc (.t 141)),
  po_ 143 (.fieldA 0 0 (.t 142)),
  po_ 144 (.load false 1 (.t 143)),
  po_ 145 (.load true 20 (.t 22)),
  po_ 146 (.gen (.look (.arr 20) (.agg [.arr 20 1 [.val (.int .u8 ((0 : Nat) : Int)), .val (.int .u8 ((0 : Nat) : Int)), .val (.int .u8 ((0 : Nat) : Int)), .val (.int .u8 ((0 : Nat) : Int)), .val (.int .u8 ((0 : Nat) : Int)), .val (.int .u8 ((0 : Nat) : Int)), .val (.int .u8 ((0 : Nat) : Int)), .val (.int .u8 ((0 : Nat) : Int)), .val (.int .u8 ((0 : Nat) : Int)), .val (.int .u8 ((0 : Nat) : Int)), .val (.int .u8 ((0 : Nat) : Int)), .val (.int .u8 ((0 : Nat) : Int)), .val (.int .u8 ((0 : Nat) : Int)), .val (.int .u8 ((0 : Nat) : Int)), .val (.int .u8 ((0 : Nat) : Int)), .val (.int .u8 ((0 : Nat) : Int)), .val (.int .u8 ((0 : Nat) : Int)), .val (.int .u8 ((0 : Nat) : Int)), .val (.int .u8 ((0 : Nat) : Int)), .val (.int .u8 ((0 : Nat) : Int))], .val (.slice none 0 0), .val (.int .i64 ((0 : Nat) : Int))]) false) [.t 144, .t 145]),
  po_ 147 (.iface 51 (.t 146)),
  so_ 148 (.call 26 [.t 140, .t 147])] [8, 11, 13, 17, 19, 118, 119, 120]
def AAw : AsQ := .seq (.ops [mv_ 130 13,
  po_ 131 (.load true 20 (.t 22)),
  po_ 132 (.gen (.look (.arr 20) (.val (.int .i64 ((0 : Nat) : Int))) false) [.t 130, .t 131]),
  po_ 133 (.bin 3 .eql (.t 132) (ci_ 0)),
  mv_ 134 133,
  ⟨some 135, .p (.mov (.t 11)), some ⟨134, true⟩⟩,
  ⟨some 136, .p (.load true 20 (.t 22)), some ⟨134, true⟩⟩,
  ⟨some 137, .s (.call 25 [.t 135, .t 136]), some ⟨134, true⟩⟩,
  po_ 138 (.pick (.t 134) (.t 137) (.c (.bool false)))] [8, 11, 13, 17, 19, 22, 118, 119, 120, 138])
 (.cond (.t 138)
 ABc
 (.skip))
def AAF : AsQ := .seq (.draw 4 [mv_ 124 13,
  po_ 125 (.load true 20 (.t 22)),
  po_ 126 (.gen (.look (.arr 20) (.val (.int .i64 ((0 : Nat) : Int))) false) [.t 124, .t 125]),
  po_ 127 (.bin 3 .sub (.t 126) (ci_ 1)),
  so_ 128 (.ment (.arr 20) (.val (.int .i64 ((0 : Nat) : Int))) (.t 124) (.t 125)),
  po_ 129 (.ext 1 (.t 128)),
  ⟨none, .s (.mest (.t 124) (.t 129) (.t 127)), none⟩] [8, 11, 13, 17, 19, 22, 118, 119, 120])
 AAw
def AA5 : AsQ := .seq (.block 11 (.seq (.ops [po_ 122 (.idxA 20 (.t 118) (.t 120)),
  po_ 123 (.load true 20 (.t 122)),
  so_ 22 (.alloc (.arr 20 1 [.val (.int .u8 ((0 : Nat) : Int)), .val (.int .u8 ((0 : Nat) : Int)), .val (.int .u8 ((0 : Nat) : Int)), .val (.int .u8 ((0 : Nat) : Int)), .val (.int .u8 ((0 : Nat) : Int)), .val (.int .u8 ((0 : Nat) : Int)), .val (.int .u8 ((0 : Nat) : Int)), .val (.int .u8 ((0 : Nat) : Int)), .val (.int .u8 ((0 : Nat) : Int)), .val (.int .u8 ((0 : Nat) : Int)), .val (.int .u8 ((0 : Nat) : Int)), .val (.int .u8 ((0 : Nat) : Int)), .val (.int .u8 ((0 : Nat) : Int)), .val (.int .u8 ((0 : Nat) : Int)), .val (.int .u8 ((0 : Nat) : Int)), .val (.int .u8 ((0 : Nat) : Int)), .val (.int .u8 ((0 : Nat) : Int)), .val (.int .u8 ((0 : Nat) : Int)), .val (.int .u8 ((0 : Nat) : Int)), .val (.int .u8 ((0 : Nat) : Int))])),
  ⟨none, .s (.store 20 (.t 22) (.t 123)), none⟩] [8, 11, 13, 17, 19, 22, 118, 119, 120])
 AAF))
 (.ops [po_ 149 (.bin 3 .add (.t 120) (ci_ 1)),
  mv_ 120 149] [8, 11, 13, 17, 19, 118, 119, 120])
def AAK : AsQ := .seq (.cond (.t 121)
 (.skip)
 (.exit 10))
 AA5
def AA3 : AsQ := .seq (.ops [po_ 121 (.bin 3 .lss (.t 120) (.t 119))] [8, 11, 13, 17, 19, 118, 119, 120, 121])
 AAK
def AxW : AsQ := .block 10 (.loop [8, 11, 13, 17, 19, 118, 119, 120] AA3)
def AAY : AsQ := .seq (.ops [po_ 117 (.fieldA 1 20 (.t 20)),
  po_ 118 (.load false 1 (.t 117)),
  po_ 119 (.lenV (.t 118)),
  po_ 120 (.mov (ci_ 0))] [8, 11, 13, 17, 19, 118, 119, 120])
 AxW
def AAE : AsQ := .seq (.ops [mv_ 112 19,
  po_ 113 (.fieldA 0 0 (.t 20)),
  po_ 114 (.load true 20 (.t 113)),
  ⟨some 115, .s (.bslice 20 1 (.arr 20 1 [.val (.int .u8 ((0 : Nat) : Int)), .val (.int .u8 ((0 : Nat) : Int)), .val (.int .u8 ((0 : Nat) : Int)), .val (.int .u8 ((0 : Nat) : Int)), .val (.int .u8 ((0 : Nat) : Int)), .val (.int .u8 ((0 : Nat) : Int)), .val (.int .u8 ((0 : Nat) : Int)), .val (.int .u8 ((0 : Nat) : Int)), .val (.int .u8 ((0 : Nat) : Int)), .val (.int .u8 ((0 : Nat) : Int)), .val (.int .u8 ((0 : Nat) : Int)), .val (.int .u8 ((0 : Nat) : Int)), .val (.int .u8 ((0 : Nat) : Int)), .val (.int .u8 ((0 : Nat) : Int)), .val (.int .u8 ((0 : Nat) : Int)), .val (.int .u8 ((0 : Nat) : Int)), .val (.int .u8 ((0 : Nat) : Int)), .val (.int .u8 ((0 : Nat) : Int)), .val (.int .u8 ((0 : Nat) : Int)), .val (.int .u8 ((0 : Nat) : Int))]) [⟨0, .t 114⟩]), none⟩,
  so_ 116 (.app 20 20 40 (.t 112) (.t 115)),
  mv_ 19 116] [8, 11, 13, 17, 19, 20])
 AAY
def AAq : AsQ := .block 9 (.seq (.ops [mv_ 108 17,
  po_ 109 (.iface 64 (.t 108)),
  so_ 110 (.call 24 [.t 109]),
  po_ 111 (.gen (.tas 51) [.t 110]),
  so_ 20 (.alloc (.agg [.arr 20 1 [.val (.int .u8 ((0 : Nat) : Int)), .val (.int .u8 ((0 : Nat) : Int)), .val (.int .u8 ((0 : Nat) : Int)), .val (.int .u8 ((0 : Nat) : Int)), .val (.int .u8 ((0 : Nat) : Int)), .val (.int .u8 ((0 : Nat) : Int)), .val (.int .u8 ((0 : Nat) : Int)), .val (.int .u8 ((0 : Nat) : Int)), .val (.int .u8 ((0 : Nat) : Int)), .val (.int .u8 ((0 : Nat) : Int)), .val (.int .u8 ((0 : Nat) : Int)), .val (.int .u8 ((0 : Nat) : Int)), .val (.int .u8 ((0 : Nat) : Int)), .val (.int .u8 ((0 : Nat) : Int)), .val (.int .u8 ((0 : Nat) : Int)), .val (.int .u8 ((0 : Nat) : Int)), .val (.int .u8 ((0 : Nat) : Int)), .val (.int .u8 ((0 : Nat) : Int)), .val (.int .u8 ((0 : Nat) : Int)), .val (.int .u8 ((0 : Nat) : Int))], .val (.slice none 0 0), .val (.int .i64 ((0 : Nat) : Int))])),
  ⟨none, .s (.store 22 (.t 20) (.t 111)), none⟩] [8, 11, 13, 17, 19, 20])
 AAE)
def AAt : AsQ := .seq (.seq (.ops [mv_ 103 17,
  po_ 104 (.nilc (.t 103)),
  po_ 105 (.load false 1 (.t 104)),
  so_ 106 (.call 23 [.t 105]),
  po_ 107 (.bin 3 .gtr (.t 106) (ci_ 0))] [8, 11, 13, 17, 19, 107])
 (.cond (.t 107)
 (.skip)
 (.exit 8)))
 AAq
def AAR : AsQ := .seq (.ops [mv_ 150 19,
  mv_ 6 150,
  po_ 7 (.mov (.c .nilIface))] [6, 7])
 (.ret)
def ABp : AsQ := .seq (.block 8 (.own 19 20 (.loop [8, 11, 13, 17, 19] AAt)))
 AAR
def AxQ : AsQ := .seq (.ops [po_ 19 (.mov (.c (.slice none 0 0)))] [8, 11, 13, 17, 19])
 ABp
def ABk : AsQ := .seq (.ops [mv_ 100 17,
  po_ 101 (.iface 64 (.t 100)),
  so_ 102 (.call 22 [.t 101])] [8, 11, 13, 17])
 AxQ
def AA6 : AsQ := .seq (.seq (.ops [mv_ 77 11,
  so_ 78 (.rngM (.t 77))] [8, 11, 13, 17, 78])
 AAP)
 ABk
def AxO : AsQ := .seq (.ops [so_ 75 (.bslice 22 0 (.agg [.arr 20 1 [.val (.int .u8 ((0 : Nat) : Int)), .val (.int .u8 ((0 : Nat) : Int)), .val (.int .u8 ((0 : Nat) : Int)), .val (.int .u8 ((0 : Nat) : Int)), .val (.int .u8 ((0 : Nat) : Int)), .val (.int .u8 ((0 : Nat) : Int)), .val (.int .u8 ((0 : Nat) : Int)), .val (.int .u8 ((0 : Nat) : Int)), .val (.int .u8 ((0 : Nat) : Int)), .val (.int .u8 ((0 : Nat) : Int)), .val (.int .u8 ((0 : Nat) : Int)), .val (.int .u8 ((0 : Nat) : Int)), .val (.int .u8 ((0 : Nat) : Int)), .val (.int .u8 ((0 : Nat) : Int)), .val (.int .u8 ((0 : Nat) : Int)), .val (.int .u8 ((0 : Nat) : Int)), .val (.int .u8 ((0 : Nat) : Int)), .val (.int .u8 ((0 : Nat) : Int)), .val (.int .u8 ((0 : Nat) : Int)), .val (.int .u8 ((0 : Nat) : Int))], .val (.slice none 0 0), .val (.int .i64 ((0 : Nat) : Int))]) []),
  so_ 76 (.box (.t 75)),
  mv_ 17 76] [8, 11, 13, 17])
 AA6
def ABh : AsQ := .seq (.seq (.ops [mv_ 50 11,
  so_ 51 (.rngM (.t 50))] [8, 11, 13, 51])
 AAA)
 AxO
def AxV : AsQ := .seq (.ops [so_ 49 (.mkm (.arr 20) none),
  mv_ 13 49] [8, 11, 13])
 ABh
def AxY : AsQ := .seq (.seq (.ops [mv_ 41 10,
  so_ 42 (.rngM (.t 41))] [8, 11, 42])
 (.block 0 (.loop [8, 11, 42] ACR)))
 AxV
def ABj : AsQ := .seq (.ops [mv_ 38 8,
  mv_ 39 1,
  so_ 40 (.call 21 [.t 38, .t 39]),
  mv_ 11 40] [8, 10, 11])
 AxY
def AAp : AsQ := .seq (.ops [mv_ 35 8,
  mv_ 36 2,
  so_ 37 (.call 21 [.t 35, .t 36]),
  mv_ 10 37] [1, 8, 10])
 ABj
def AAy : AsQ := .seq (.seq (.ops [mv_ 32 9,
  po_ 33 (.eqN 1 (.t 32) (.c .nilIface) true)] [1, 2, 8, 9, 33])
 (.cond (.t 33)
 (.seq (.ops [mv_ 34 9,
   po_ 6 (.mov (.c (.slice none 0 0))),
   mv_ 7 34] [6, 7])
  (.ret))
 (.skip)))
 AAp
def AA2 : AsQ := .seq (.ops [mv_ 24 0,
  mv_ 25 1,
  mv_ 26 2,
  ⟨some 27, .s (.bslice 1 2 (.val (.slice none 0 0)) [⟨0, .t 25⟩, ⟨1, .t 26⟩]), none⟩,
  so_ 28 (.call 20 [.t 27]),
  so_ 29 (.call 19 [.t 24, .t 28]),
  mv_ 23 29,
  po_ 30 (.ext 0 (.t 23)),
  po_ 31 (.ext 1 (.t 23)),
  mv_ 8 30,
  mv_ 9 31] [1, 2, 8, 9])
 AAy
def AF0 : AsQ := .seq (.ops [po_ 6 (.mov (.c (.slice none 0 0))),
  po_ 7 (.mov (.c .nilIface))] [0, 1, 2])
 AA2
def AvJ : List VR := [.tmp 6, .tmp 7]
theorem AKN : Tryd.f7.body.bind (trC Tryd.prog Tryd.f7.ntmps) = some (er AF0) := by kernel_rfl
theorem AKp : trR Tryd.prog Tryd.f7.results.toList = some AvJ := by kernel_rfl
def Az0 := AsN ACR.eq_1
def AGP := AsN ACv.eq_1
def Az3 := AsN ACc.eq_1
def AzY := AsN ACF.eq_1
def AGv := AsN ACE.eq_1
def AGL := AsN ACw.eq_1
def AGO := AsN ACI.eq_1
def AzZ := AsN ACS.eq_1
def AGr := AsN ACs.eq_1
def AFe := AsN AAA.eq_1
def AE8 := AsN ABg.eq_1
def Azy := AsN ABd.eq_1
def AzB := AsN AA4.eq_1
def Azh := AsN AAT.eq_1
def Awn := AsN AA8.eq_1
def AFn := AsN AA1.eq_1
def AEY := AsN AAP.eq_1
def AET := AsN ABc.eq_1
def Azv := AsN AAw.eq_1
def Azu := AsN AAF.eq_1
def Azo := AsN AA5.eq_1
def Awl := AsN AAK.eq_1
def Awu := AsN AA3.eq_1
def AFy := AsN AxW.eq_1
def AEV := AsN AAY.eq_1
def AE0 := AsN AAE.eq_1
def Azi := AsN AAq.eq_1
def AFf := AsN AAt.eq_1
def AFu := AsN AAR.eq_1
def AEP := AsN ABp.eq_1
def AE2 := AsN AxQ.eq_1
def AFw := AsN ABk.eq_1
def AFa := AsN AA6.eq_1
def AFq := AsN AxO.eq_1
def AE7 := AsN ABh.eq_1
def AER := AsN AxV.eq_1
def AE9 := AsN AxY.eq_1
def AFp := AsN ABj.eq_1
def AFt := AsN AAp.eq_1
def Azj := AsN AAy.eq_1
def Azw := AsN AA2.eq_1
def AD0 := AsN AF0.eq_1
theorem ADx {K : TV → Prop} {e : Env} {H : List Ob} : res AvJ e H K = res [.tmp 6, .tmp 7] e H K := AsM rfl
def AJn := AvA 151 Tryd.func7 AKN AKp rfl

def Au3 : AsQ := .seq (.block 1 (.seq (.ops [po_ 13 (.idxA 1 (.t 9) (.t 11)),
  po_ 14 (.load false 1 (.t 13)),
  mv_ 5 14] [0, 3, 5, 9, 10, 11])
 (.seq (.ops [mv_ 15 3,
  mv_ 16 5,
  po_ 17 (.lenV (.t 16)),
  po_ 18 (.bin 3 .add (.t 15) (.t 17)),
  mv_ 3 18] [0, 3, 9, 10, 11])
 (.seq (.ops [mv_ 19 3,
  po_ 20 (.bin 3 .lss (.t 19) (ci_ 0))] [0, 3, 9, 10, 11, 20])
 (.cond (.t 20)
 (.pops [po_ 21 (.iface 9 (.c (.string (str [108, 101, 110, 32, 111, 117, 116, 32, 111, 102, 32, 114, 97, 110, 103, 101])))),
   ⟨none, .s (.pan (.t 21)), none⟩] [0, 3, 9, 10, 11])
 (.skip))))))
 (.ops [po_ 22 (.bin 3 .add (.t 11) (ci_ 1)),
  mv_ 11 22] [0, 3, 9, 10, 11])
def Au7 : AsQ := .seq (.cond (.t 12)
 (.skip)
 (.exit 0))
 Au3
def Au5 : AsQ := .seq (.ops [po_ 12 (.bin 3 .lss (.t 11) (.t 10))] [0, 3, 9, 10, 11, 12])
 Au7
def Au6 : AsQ := .block 0 (.loop [0, 3, 9, 10, 11] Au5)
def AtH : AsQ := .seq (.ops [po_ 28 (.bin 3 .lss (.t 27) (.t 26))] [6, 25, 26, 27, 28])
 (.seq (.cond (.t 28)
 (.skip)
 (.exit 2))
 (.seq (.block 3 (.seq (.ops [po_ 29 (.idxA 1 (.t 25) (.t 27)),
  po_ 30 (.load false 1 (.t 29)),
  mv_ 8 30] [6, 8, 25, 26, 27])
 (.ops [mv_ 31 6,
  mv_ 32 8,
  so_ 33 (.app 20 20 40 (.t 31) (.t 32)),
  mv_ 6 33] [6, 25, 26, 27])))
 (.ops [po_ 34 (.bin 3 .add (.t 27) (ci_ 1)),
  mv_ 27 34] [6, 25, 26, 27])))
def AtI : AsQ := .seq (.ops [mv_ 35 6,
  mv_ 2 35] [2])
 (.ret)
def Au4 : AsQ := .seq (.seq (.ops [mv_ 25 0,
  po_ 26 (.lenV (.t 25)),
  po_ 27 (.mov (ci_ 0))] [6, 25, 26, 27])
 (.block 2 (.own 6 20 (.loop [6, 25, 26, 27] AtH))))
 AtI
def Ava : AsQ := .seq (.ops [mv_ 23 3,
  so_ 24 (.call 37 [.c (.slice none 0 0), .t 23]),
  mv_ 6 24] [0, 6])
 Au4
def Au2 : AsQ := .seq (.seq (.ops [mv_ 9 0,
  po_ 10 (.lenV (.t 9)),
  po_ 11 (.mov (ci_ 0))] [0, 3, 9, 10, 11])
 Au6)
 Ava
def AuV : AsQ := .seq (.ops [po_ 3 (.mov (ci_ 0))] [0, 3])
 Au2
def Avo : AsQ := .seq (.ops [po_ 2 (.mov (.c (.slice none 0 0)))] [0])
 AuV
def At3 : List VR := [.tmp 2]
theorem AyN : Tryd.f20.body.bind (trC Tryd.prog Tryd.f20.ntmps) = some (er Avo) := by kernel_rfl
theorem AyL : trR Tryd.prog Tryd.f20.results.toList = some At3 := by kernel_rfl
def AwU := AsN Au3.eq_1
def AuC := AsN Au7.eq_1
def AuD := AsN Au5.eq_1
def AwT := AsN Au6.eq_1
def AwV := AsN AtH.eq_1
def AwW := AsN AtI.eq_1
def Atx := AsN Au4.eq_1
def Auz := AsN Ava.eq_1
def AwX := AsN Au2.eq_1
def Awe := AsN AuV.eq_1
def AxT := AsN Avo.eq_1
theorem AxU {K : TV → Prop} {e : Env} {H : List Ob} : res At3 e H K = res [.tmp 2] e H K := AsM rfl
def Ats := (And.intro (And.intro (And.intro (And.intro @AwU @AuC) (And.intro @AuD @AwT)) (And.intro (And.intro @AwV @AwW) (And.intro @Atx @Auz))) (And.intro (And.intro @AwX @Awe) (And.intro @AxT @AxU)))
def Ax2 := AvA 36 Tryd.func20 AyN AyL rfl

def Avk : AsQ := .ops [mv_ 17 0,
  mv_ 18 0,
  po_ 19 (.gen .capV [.t 18]),
  po_ 20 (.slV 20 (.t 17) none (some (.t 19))),
  mv_ 21 1,
  so_ 22 (.appZ 20 20 (.arr 20 1 [.val (.int .u8 ((0 : Nat) : Int)), .val (.int .u8 ((0 : Nat) : Int)), .val (.int .u8 ((0 : Nat) : Int)), .val (.int .u8 ((0 : Nat) : Int)), .val (.int .u8 ((0 : Nat) : Int)), .val (.int .u8 ((0 : Nat) : Int)), .val (.int .u8 ((0 : Nat) : Int)), .val (.int .u8 ((0 : Nat) : Int)), .val (.int .u8 ((0 : Nat) : Int)), .val (.int .u8 ((0 : Nat) : Int)), .val (.int .u8 ((0 : Nat) : Int)), .val (.int .u8 ((0 : Nat) : Int)), .val (.int .u8 ((0 : Nat) : Int)), .val (.int .u8 ((0 : Nat) : Int)), .val (.int .u8 ((0 : Nat) : Int)), .val (.int .u8 ((0 : Nat) : Int)), .val (.int .u8 ((0 : Nat) : Int)), .val (.int .u8 ((0 : Nat) : Int)), .val (.int .u8 ((0 : Nat) : Int)), .val (.int .u8 ((0 : Nat) : Int))]) (.t 20) (.t 21)),
  mv_ 23 0,
  po_ 24 (.lenV (.t 23)),
  po_ 25 (.slV 20 (.t 22) none (some (.t 24))),
  mv_ 0 25] [0]
def Avm : AsQ := .seq (.seq (.ops [mv_ 8 1,
  mv_ 9 0,
  po_ 10 (.gen .capV [.t 9]),
  mv_ 11 0,
  po_ 12 (.lenV (.t 11)),
  po_ 13 (.bin 3 .sub (.t 10) (.t 12)),
  po_ 14 (.bin 3 .sub (.t 8) (.t 13)),
  mv_ 1 14] [0, 1])
 (.seq (.ops [mv_ 15 1,
  po_ 16 (.bin 3 .gtr (.t 15) (ci_ 0))] [0, 1, 16])
 (.cond (.t 16)
 Avk
 (.skip))))
 (.seq (.ops [mv_ 26 0,
  mv_ 4 26] [4])
 (.ret))
def Avi : AsQ := .seq (.seq (.ops [mv_ 5 1,
  po_ 6 (.bin 3 .lss (.t 5) (ci_ 0))] [0, 1, 6])
 (.cond (.t 6)
 (.pops [po_ 7 (.iface 9 (.c (.string (str [99, 97, 110, 110, 111, 116, 32, 98, 101, 32, 110, 101, 103, 97, 116, 105, 118, 101])))),
   ⟨none, .s (.pan (.t 7)), none⟩] [0, 1])
 (.skip)))
 Avm
def AvG : AsQ := .seq (.ops [po_ 4 (.mov (.c (.slice none 0 0)))] [0, 1])
 Avi
def AvE : List VR := [.tmp 4]
theorem Aza : Tryd.f37.body.bind (trC Tryd.prog Tryd.f37.ntmps) = some (er AvG) := by kernel_rfl
theorem Azb : trR Tryd.prog Tryd.f37.results.toList = some AvE := by kernel_rfl
def Axr := AsN Avk.eq_1
def Axt := AsN Avm.eq_1
def Axp := AsN Avi.eq_1
def AyI := AsN AvG.eq_1
theorem AyM {K : TV → Prop} {e : Env} {H : List Ob} : res AvE e H K = res [.tmp 4] e H K := AsM rfl
def AvC := (And.intro (And.intro (And.intro @Axr @Axt) (And.intro @Axp @AyI)) @AyM)
def Ay7 := AvA 27 Tryd.func37 Aza Azb rfl




def AyS : AsQ := .seq (.ops [mv_ 67 9,
  so_ 68 (.call 12 [.t 67]),
  po_ 69 (.bin 36 .eql (.t 68) (ci_ 80)),
  mv_ 70 69,
  ⟨some 71, .p (.mov (.t 8)), some ⟨70, true⟩⟩,
  ⟨some 72, .p (.lenV (.t 71)), some ⟨70, true⟩⟩,
  ⟨some 73, .p (.bin 3 .eql (.t 72) (ci_ 0)), some ⟨70, true⟩⟩,
  po_ 74 (.pick (.t 70) (.t 73) (.c (.bool false))),
  mv_ 6 74] [6])
 (.ret)
def AyY : AsQ := .seq (.block 3 (.seq (.draw 17 [mv_ 119 0,
  mv_ 120 0,
  mv_ 121 18,
  po_ 122 (.idxA 22 (.t 120) (.t 121)),
  po_ 123 (.fieldA 0 0 (.t 122)),
  po_ 124 (.load true 20 (.t 123)),
  mv_ 125 0,
  mv_ 126 18,
  po_ 127 (.idxA 22 (.t 125) (.t 126)),
  po_ 128 (.fieldA 1 20 (.t 127)),
  po_ 129 (.load false 1 (.t 128)),
  mv_ 130 19,
  po_ 131 (.idxA 20 (.t 129) (.t 130)),
  po_ 132 (.load true 20 (.t 131)),
  so_ 133 (.call 13 [.t 119, .t 124, .t 132]),
  mv_ 118 133,
  po_ 134 (.ext 0 (.t 118)),
  po_ 135 (.ext 1 (.t 118)),
  mv_ 20 134,
  mv_ 21 135] [0, 4, 5, 8, 18, 19, 20])
 (.seq (.ops [mv_ 136 20,
  po_ 137 (.un .not (.t 136))] [0, 4, 5, 8, 18, 19, 137])
 (.cond (.t 137)
 (.seq (.ops [po_ 6 (.mov (.c (.bool false)))] [6])
  (.ret))
 (.skip)))))
 (.ops [mv_ 116 19,
  po_ 117 (.bin 3 .add (.t 116) (ci_ 1)),
  mv_ 19 117] [0, 4, 5, 8, 18, 19])
def Ay1 : AsQ := .seq (.seq (.ops [mv_ 108 19,
  mv_ 109 0,
  mv_ 110 18,
  po_ 111 (.idxA 22 (.t 109) (.t 110)),
  po_ 112 (.fieldA 1 20 (.t 111)),
  po_ 113 (.load false 1 (.t 112)),
  po_ 114 (.lenV (.t 113)),
  po_ 115 (.bin 3 .lss (.t 108) (.t 114))] [0, 4, 5, 8, 18, 19, 115])
 (.cond (.t 115)
 (.skip)
 (.exit 2)))
 AyY
def AyT : AsQ := .block 2 (.loop [0, 4, 5, 8, 18, 19] Ay1)
def AvU : AsQ := .seq (.draw 24 [mv_ 198 8,
  mv_ 199 27,
  po_ 200 (.idxA 20 (.t 198) (.t 199)),
  po_ 201 (.load true 20 (.t 200)),
  mv_ 202 0,
  mv_ 203 18,
  po_ 204 (.idxA 22 (.t 202) (.t 203)),
  po_ 205 (.fieldA 0 0 (.t 204)),
  po_ 206 (.load true 20 (.t 205)),
  po_ 207 (.gen (.eqA 20 false) [.t 201, .t 206]),
  mv_ 208 207,
  ⟨some 209, .p (.mov (.t 22)), some ⟨208, true⟩⟩,
  ⟨some 210, .p (.un .not (.t 209)), some ⟨208, true⟩⟩,
  ⟨some 211, .p (.mov (.t 210)), some ⟨208, true⟩⟩,
  ⟨some 212, .p (.mov (.t 24)), some ⟨211, false⟩⟩,
  ⟨some 213, .p (.un .not (.t 212)), some ⟨211, false⟩⟩,
  ⟨some 214, .p (.pick (.t 211) (.c (.bool true)) (.t 213)), some ⟨208, true⟩⟩,
  po_ 215 (.pick (.t 208) (.t 214) (.c (.bool false))),
  mv_ 216 215,
  ⟨some 217, .p (.mov (.t 8)), some ⟨216, false⟩⟩,
  ⟨some 218, .p (.mov (.t 27)), some ⟨216, false⟩⟩,
  ⟨some 219, .p (.idxA 20 (.t 217) (.t 218)), some ⟨216, false⟩⟩,
  ⟨some 220, .p (.load true 20 (.t 219)), some ⟨216, false⟩⟩,
  ⟨some 221, .p (.mov (.t 0)), some ⟨216, false⟩⟩,
  ⟨some 222, .p (.mov (.t 18)), some ⟨216, false⟩⟩,
  ⟨some 223, .p (.idxA 22 (.t 221) (.t 222)), some ⟨216, false⟩⟩,
  ⟨some 224, .p (.fieldA 0 0 (.t 223)), some ⟨216, false⟩⟩,
  ⟨some 225, .p (.load true 20 (.t 224)), some ⟨216, false⟩⟩,
  ⟨some 226, .p (.gen (.eqA 20 true) [.t 220, .t 225]), some ⟨216, false⟩⟩,
  ⟨some 227, .p (.mov (.t 226)), some ⟨216, false⟩⟩,
  ⟨some 228, .p (.mov (.t 30)), some ⟨227, true⟩⟩,
  ⟨some 229, .p (.pick (.t 227) (.t 228) (.c (.bool false))), some ⟨216, false⟩⟩,
  ⟨some 230, .p (.mov (.t 229)), some ⟨216, false⟩⟩,
  ⟨some 231, .p (.mov (.t 22)), some ⟨230, true⟩⟩,
  ⟨some 232, .p (.pick (.t 230) (.t 231) (.c (.bool false))), some ⟨216, false⟩⟩,
  ⟨some 233, .p (.mov (.t 232)), some ⟨216, false⟩⟩,
  ⟨some 234, .p (.mov (.t 24)), some ⟨233, true⟩⟩,
  ⟨some 235, .p (.pick (.t 233) (.t 234) (.c (.bool false))), some ⟨216, false⟩⟩,
  po_ 236 (.pick (.t 216) (.c (.bool true)) (.t 235))] [0, 4, 5, 8, 18, 22, 24, 26, 27, 236])
 (.cond (.t 236)
 (.seq (.ops [po_ 6 (.mov (.c (.bool false)))] [6])
  (.ret))
 (.skip))
def AyX : AsQ := .seq (.draw 13 [mv_ 185 0,
  mv_ 186 0,
  mv_ 187 18,
  po_ 188 (.idxA 22 (.t 186) (.t 187)),
  po_ 189 (.fieldA 0 0 (.t 188)),
  po_ 190 (.load true 20 (.t 189)),
  mv_ 191 8,
  mv_ 192 27,
  po_ 193 (.idxA 20 (.t 191) (.t 192)),
  po_ 194 (.load true 20 (.t 193)),
  so_ 195 (.call 13 [.t 185, .t 190, .t 194]),
  mv_ 184 195,
  po_ 196 (.ext 0 (.t 184)),
  po_ 197 (.ext 1 (.t 184)),
  mv_ 30 196,
  mv_ 31 197] [0, 4, 5, 8, 18, 22, 24, 26, 27, 30])
 AvU
def AyP : AsQ := .seq (.ops [mv_ 180 26,
  mv_ 181 180,
  ⟨some 182, .p (.mov (.t 28)), some ⟨181, false⟩⟩,
  po_ 183 (.pick (.t 181) (.c (.bool true)) (.t 182)),
  mv_ 26 183] [0, 4, 5, 8, 18, 22, 24, 26, 27])
 AyX
def AvV : AsQ := .seq (.block 5 (.seq (.draw 13 [mv_ 167 0,
  mv_ 168 8,
  mv_ 169 27,
  po_ 170 (.idxA 20 (.t 168) (.t 169)),
  po_ 171 (.load true 20 (.t 170)),
  mv_ 172 0,
  mv_ 173 18,
  po_ 174 (.idxA 22 (.t 172) (.t 173)),
  po_ 175 (.fieldA 0 0 (.t 174)),
  po_ 176 (.load true 20 (.t 175)),
  so_ 177 (.call 13 [.t 167, .t 171, .t 176]),
  mv_ 166 177,
  po_ 178 (.ext 0 (.t 166)),
  po_ 179 (.ext 1 (.t 166)),
  mv_ 28 178,
  mv_ 29 179] [0, 4, 5, 8, 18, 22, 24, 26, 27, 28])
 AyP))
 (.ops [mv_ 164 27,
  po_ 165 (.bin 3 .add (.t 164) (ci_ 1)),
  mv_ 27 165] [0, 4, 5, 8, 18, 22, 24, 26, 27])
def AyW : AsQ := .seq (.seq (.ops [mv_ 160 27,
  mv_ 161 8,
  po_ 162 (.lenV (.t 161)),
  po_ 163 (.bin 3 .lss (.t 160) (.t 162))] [0, 4, 5, 8, 18, 22, 24, 26, 27, 163])
 (.cond (.t 163)
 (.skip)
 (.exit 4)))
 AvV
def Ax6 : AsQ := .block 4 (.loop [0, 4, 5, 8, 18, 22, 24, 26, 27] AyW)
def AyF : AsQ := .seq (.ops [mv_ 237 22,
  mv_ 238 237,
  ⟨some 239, .p (.mov (.t 24)), some ⟨238, true⟩⟩,
  po_ 240 (.pick (.t 238) (.t 239) (.c (.bool false))),
  mv_ 241 26,
  po_ 242 (.eqB (.t 240) (.t 241) true)] [0, 4, 5, 8, 18, 242])
 (.cond (.t 242)
 (.seq (.ops [po_ 6 (.mov (.c (.bool false)))] [6])
  (.ret))
 (.skip))
def AyE : AsQ := .seq (.seq (.ops [po_ 27 (.mov (ci_ 0))] [0, 4, 5, 8, 18, 22, 24, 26, 27])
 Ax6)
 AyF
def Ayp : AsQ := .seq (.ops [po_ 26 (.mov (.c (.bool false)))] [0, 4, 5, 8, 18, 22, 24, 26])
 AyE
def Ayf : AsQ := .seq (.draw 10 [mv_ 150 0,
  po_ 151 (.load true 20 (.t 5)),
  mv_ 152 0,
  mv_ 153 18,
  po_ 154 (.idxA 22 (.t 152) (.t 153)),
  po_ 155 (.fieldA 0 0 (.t 154)),
  po_ 156 (.load true 20 (.t 155)),
  so_ 157 (.call 13 [.t 150, .t 151, .t 156]),
  mv_ 149 157,
  po_ 158 (.ext 0 (.t 149)),
  po_ 159 (.ext 1 (.t 149)),
  mv_ 24 158,
  mv_ 25 159] [0, 4, 5, 8, 18, 22, 24])
 Ayp
def Ax5 : AsQ := .seq (.draw 10 [mv_ 139 0,
  po_ 140 (.load true 20 (.t 4)),
  mv_ 141 0,
  mv_ 142 18,
  po_ 143 (.idxA 22 (.t 141) (.t 142)),
  po_ 144 (.fieldA 0 0 (.t 143)),
  po_ 145 (.load true 20 (.t 144)),
  so_ 146 (.call 13 [.t 139, .t 140, .t 145]),
  mv_ 138 146,
  po_ 147 (.ext 0 (.t 138)),
  po_ 148 (.ext 1 (.t 138)),
  mv_ 22 147,
  mv_ 23 148] [0, 4, 5, 8, 18, 22])
 Ayf
def AyC : AsQ := .ops [mv_ 106 18,
  po_ 107 (.bin 3 .add (.t 106) (ci_ 1)),
  mv_ 18 107] [0, 4, 5, 8, 18]
def Ayy : AsQ := .seq (.block 1 (.seq (.seq (.ops [po_ 19 (.mov (ci_ 0))] [0, 4, 5, 8, 18, 19])
 AyT)
 Ax5))
 AyC
def Aya : AsQ := .seq (.seq (.ops [mv_ 102 18,
  mv_ 103 0,
  po_ 104 (.lenV (.t 103)),
  po_ 105 (.bin 3 .lss (.t 102) (.t 104))] [0, 4, 5, 8, 18, 105])
 (.cond (.t 105)
 (.skip)
 (.exit 0)))
 Ayy
def Ax8 : AsQ := .block 0 (.loop [0, 4, 5, 8, 18] Aya)
def Ayq : AsQ := .seq (.ops [po_ 6 (.mov (.c (.bool true)))] [6])
 (.ret)
def Ayr : AsQ := .seq (.seq (.ops [po_ 18 (.mov (ci_ 0))] [0, 4, 5, 8, 18])
 Ax8)
 Ayq
def Ayi : AsQ := .seq (.seq (.ops [mv_ 90 15,
  so_ 91 (.call 12 [.t 90]),
  po_ 92 (.bin 36 .neq (.t 91) (ci_ 0)),
  mv_ 93 92,
  ⟨some 94, .p (.mov (.t 14)), some ⟨93, false⟩⟩,
  ⟨some 95, .p (.lenV (.t 94)), some ⟨93, false⟩⟩,
  ⟨some 96, .p (.bin 3 .eql (.t 95) (ci_ 0)), some ⟨93, false⟩⟩,
  po_ 97 (.pick (.t 93) (.c (.bool true)) (.t 96)),
  mv_ 98 97,
  ⟨some 99, .p (.mov (.t 16)), some ⟨98, false⟩⟩,
  ⟨some 100, .p (.un .not (.t 99)), some ⟨98, false⟩⟩,
  po_ 101 (.pick (.t 98) (.c (.bool true)) (.t 100))] [0, 4, 5, 8, 101])
 (.cond (.t 101)
 (.seq (.ops [po_ 6 (.mov (.c (.bool false)))] [6])
  (.ret))
 (.skip)))
 Ayr
def Ax7 : AsQ := .seq (.ops [mv_ 84 0,
  po_ 85 (.load true 20 (.t 4)),
  po_ 86 (.load true 20 (.t 4)),
  so_ 87 (.call 13 [.t 84, .t 85, .t 86]),
  mv_ 83 87,
  po_ 88 (.ext 0 (.t 83)),
  po_ 89 (.ext 1 (.t 83)),
  mv_ 16 88,
  mv_ 17 89] [0, 4, 5, 8, 14, 15, 16])
 Ayi
def Ayk : AsQ := .seq (.ops [mv_ 76 0,
  po_ 77 (.load true 20 (.t 4)),
  po_ 78 (.load true 20 (.t 5)),
  ⟨some 79, .s (.bslice 20 2 (.arr 20 1 [.val (.int .u8 ((0 : Nat) : Int)), .val (.int .u8 ((0 : Nat) : Int)), .val (.int .u8 ((0 : Nat) : Int)), .val (.int .u8 ((0 : Nat) : Int)), .val (.int .u8 ((0 : Nat) : Int)), .val (.int .u8 ((0 : Nat) : Int)), .val (.int .u8 ((0 : Nat) : Int)), .val (.int .u8 ((0 : Nat) : Int)), .val (.int .u8 ((0 : Nat) : Int)), .val (.int .u8 ((0 : Nat) : Int)), .val (.int .u8 ((0 : Nat) : Int)), .val (.int .u8 ((0 : Nat) : Int)), .val (.int .u8 ((0 : Nat) : Int)), .val (.int .u8 ((0 : Nat) : Int)), .val (.int .u8 ((0 : Nat) : Int)), .val (.int .u8 ((0 : Nat) : Int)), .val (.int .u8 ((0 : Nat) : Int)), .val (.int .u8 ((0 : Nat) : Int)), .val (.int .u8 ((0 : Nat) : Int)), .val (.int .u8 ((0 : Nat) : Int))]) [⟨0, .t 77⟩, ⟨1, .t 78⟩]), none⟩,
  so_ 80 (.call 7 [.t 76, .t 79, .c (.slice none 0 0)]),
  mv_ 75 80,
  po_ 81 (.ext 0 (.t 75)),
  po_ 82 (.ext 1 (.t 75)),
  mv_ 14 81,
  mv_ 15 82] [0, 4, 5, 8, 14, 15])
 Ax7
def Ayj : AsQ := .seq (.seq (.ops [mv_ 64 9,
  so_ 65 (.call 12 [.t 64]),
  po_ 66 (.bin 36 .neq (.t 65) (ci_ 0))] [0, 4, 5, 8, 9, 66])
 (.cond (.t 66)
 AyS
 (.skip)))
 Ayk
def Ayn : AsQ := .seq (.seq (.ops [mv_ 55 13,
  po_ 56 (.un .not (.t 55)),
  mv_ 57 56,
  ⟨some 58, .p (.mov (.t 9)), some ⟨57, false⟩⟩,
  ⟨some 59, .s (.call 12 [.t 58]), some ⟨57, false⟩⟩,
  ⟨some 60, .p (.mov (.t 11)), some ⟨57, false⟩⟩,
  ⟨some 61, .s (.call 12 [.t 60]), some ⟨57, false⟩⟩,
  ⟨some 62, .p (.bin 36 .neq (.t 59) (.t 61)), some ⟨57, false⟩⟩,
  po_ 63 (.pick (.t 57) (.c (.bool true)) (.t 62))] [0, 4, 5, 8, 9, 63])
 (.cond (.t 63)
 (.seq (.ops [po_ 6 (.mov (.c (.bool false)))] [6])
  (.ret))
 (.skip)))
 Ayj
def Ax9 : AsQ := .seq (.ops [mv_ 52 8,
  mv_ 53 12,
  so_ 54 (.call 11 [.t 52, .t 53]),
  mv_ 13 54] [0, 4, 5, 8, 9, 11, 13])
 Ayn
def Ax1 : AsQ := .seq (.ops [mv_ 50 10,
  so_ 51 (.call 9 [.t 50]),
  mv_ 12 51] [0, 4, 5, 8, 9, 11, 12])
 Ax9
def Ayc : AsQ := .seq (.ops [mv_ 44 0,
  po_ 45 (.load true 20 (.t 5)),
  po_ 46 (.load true 20 (.t 4)),
  so_ 47 (.call 15 [.t 44, .t 45, .t 46]),
  mv_ 43 47,
  po_ 48 (.ext 0 (.t 43)),
  po_ 49 (.ext 1 (.t 43)),
  mv_ 10 48,
  mv_ 11 49] [0, 4, 5, 8, 9, 10, 11])
 Ax1
def Ayo : AsQ := .seq (.ops [mv_ 37 0,
  po_ 38 (.load true 20 (.t 4)),
  po_ 39 (.load true 20 (.t 5)),
  so_ 40 (.call 15 [.t 37, .t 38, .t 39]),
  mv_ 36 40,
  po_ 41 (.ext 0 (.t 36)),
  po_ 42 (.ext 1 (.t 36)),
  mv_ 8 41,
  mv_ 9 42] [0, 4, 5, 8, 9])
 Ayc
def Ayx : AsQ := .seq (.seq (.ops [mv_ 34 7,
  po_ 35 (.un .not (.t 34))] [0, 4, 5, 35])
 (.cond (.t 35)
 (.seq (.ops [po_ 6 (.mov (.c (.bool true)))] [6])
  (.ret))
 (.skip)))
 Ayo
def Ayu : AsQ := .seq (.ops [mv_ 32 0,
  so_ 33 (.call 6 [.t 32]),
  mv_ 7 33] [0, 4, 5, 7])
 Ayx
def AAN : AsQ := .seq (.ops [so_ 4 (.box (.t 1)),
  so_ 5 (.box (.t 2)),
  po_ 6 (.mov (.c (.bool false)))] [0, 4, 5])
 Ayu
def AAZ : List VR := [.tmp 6]
theorem AHs : Tryd.f5.body.bind (trC Tryd.prog Tryd.f5.ntmps) = some (er AAN) := by kernel_rfl
theorem AHA : trR Tryd.prog Tryd.f5.results.toList = some AAZ := by kernel_rfl
def ACX := AsN AyS.eq_1
def AC0 := AsN AyY.eq_1
def AxF := AsN Ay1.eq_1
def ADc := AsN AyT.eq_1
def AxG := AsN AvU.eq_1
def AC5 := AsN AyX.eq_1
def AC7 := AsN AyP.eq_1
def AC8 := AsN AvV.eq_1
def Axx := AsN AyW.eq_1
def ABE := AsN Ax6.eq_1
def ABW := AsN AyF.eq_1
def ABP := AsN AyE.eq_1
def ABD := AsN Ayp.eq_1
def ABO := AsN Ayf.eq_1
def AB1 := AsN Ax5.eq_1
def ABS := AsN AyC.eq_1
def ABN := AsN Ayy.eq_1
def Axk := AsN Aya.eq_1
def ABG := AsN Ax8.eq_1
def ABw := AsN Ayq.eq_1
def ABA := AsN Ayr.eq_1
def ABR := AsN Ayi.eq_1
def ABU := AsN Ax7.eq_1
def ABT := AsN Ayk.eq_1
def AwZ := AsN Ayj.eq_1
def Aw7 := AsN Ayn.eq_1
def Aw8 := AsN Ax9.eq_1
def Axh := AsN Ax1.eq_1
def Aw6 := AsN Ayc.eq_1
def ABB := AsN Ayo.eq_1
def Axj := AsN Ayx.eq_1
def ABz := AsN Ayu.eq_1
def AFi := AsN AAN.eq_1
theorem Auo {K : TV → Prop} {e : Env} {H : List Ob} : res AAZ e H K = res [.tmp 6] e H K := AsM rfl
def AGl := AvA 243 Tryd.func5 AHs AHA rfl

end Go.Proofs.YtingoaihnlhiaaaDoor


namespace Go.Proofs.YtingoaihnlhiaaaDoor
open Go.RowKit
variable [Atj]
set_option linter.unusedSectionVars false
set_option linter.unusedVariables false
set_option linter.unusedSimpArgs false

/-- -1, 0, 1. -/
def AWB (a b : Int) : Int := if a < b then -1 else if b < a then 1 else 0
def orI (x y : Int) : Int := if x = 0 then y else x
theorem A4r (a : Int) : Awi Tryd.prog 100 [i64 a] (fun r => r = tb false) := by
 refine AsZ.toPureV (AGt (by simp) ?_)
 simp -dsimp (disch := first | assumption | omega) only [↓AsU, AsP, AsT, AsR, eq_self, forall_const, Nat.reduceLT, Nat.reduceEqDiff, Nat.reduceSub, Nat.reduceMul, Nat.reduceMod, Nat.reduceDiv, Nat.reducePow, UInt8.reduceToNat, Int.reduceEq, Int.reduceLT, Int.reduceLE, ↓reduceIte, Nat.reduceAdd, Int.reduceToNat, reduceCtorEq, Nat.reduceLeDiff, ↓AG5]
theorem A5h (a b : Int) : Awi Tryd.prog 99 [i64 a, i64 b] (fun r => r = i64 (AWB a b)) := by
 refine AsZ.toPureV (AEA (by simp) ?_)
 simp -dsimp (disch := first | assumption | omega) only [↓AsU, AsP, AsT, AsR, eq_self, forall_const, Nat.reduceLT, Nat.reduceEqDiff, Nat.reduceSub, Nat.reduceMul, Nat.reduceMod, Nat.reduceDiv, Nat.reducePow, UInt8.reduceToNat, Int.reduceEq, Int.reduceLT, Int.reduceLE, ↓reduceIte, Nat.reduceAdd, Int.reduceToNat, reduceCtorEq, Nat.reduceLeDiff, ↓Aun]
 refine (A4r a).calls rfl ?_
 rintro _ rfl
 simp -dsimp (disch := first | assumption | omega) only [↓AsU, AsP, AsT, AsR, eq_self, forall_const, Nat.reduceLT, Nat.reduceEqDiff, Nat.reduceSub, Nat.reduceMul, Nat.reduceMod, Nat.reduceDiv, Nat.reducePow, UInt8.reduceToNat, Int.reduceEq, Int.reduceLT, Int.reduceLE, ↓reduceIte, Nat.reduceAdd, Int.reduceToNat, reduceCtorEq, Nat.reduceLeDiff, ↓Aun]
 refine (A4r b).calls rfl ?_
 rintro _ rfl
 unfold AWB
 by_cases h : a < b
 ·rw [if_pos h]
  simp -dsimp (disch := first | assumption | omega) only [↓AsU, AsP, AsT, AsR, eq_self, forall_const, Nat.reduceLT, Nat.reduceEqDiff, Nat.reduceSub, Nat.reduceMul, Nat.reduceMod, Nat.reduceDiv, Nat.reducePow, UInt8.reduceToNat, Int.reduceEq, Int.reduceLT, Int.reduceLE, ↓reduceIte, Nat.reduceAdd, Int.reduceToNat, reduceCtorEq, Nat.reduceLeDiff, ↓Aun]
 ·rw [if_neg h]
  by_cases h2 : b < a
  ·rw [if_pos h2]
   simp -dsimp (disch := first | assumption | omega) only [↓AsU, AsP, AsT, AsR, eq_self, forall_const, Nat.reduceLT, Nat.reduceEqDiff, Nat.reduceSub, Nat.reduceMul, Nat.reduceMod, Nat.reduceDiv, Nat.reducePow, UInt8.reduceToNat, Int.reduceEq, Int.reduceLT, Int.reduceLE, ↓reduceIte, Nat.reduceAdd, Int.reduceToNat, reduceCtorEq, Nat.reduceLeDiff, ↓Aun]
   rfl
  ·rw [if_neg h2]
   simp -dsimp (disch := first | assumption | omega) only [↓AsU, AsP, AsT, AsR, eq_self, forall_const, Nat.reduceLT, Nat.reduceEqDiff, Nat.reduceSub, Nat.reduceMul, Nat.reduceMod, Nat.reduceDiv, Nat.reducePow, UInt8.reduceToNat, Int.reduceEq, Int.reduceLT, Int.reduceLE, ↓reduceIte, Nat.reduceAdd, Int.reduceToNat, reduceCtorEq, Nat.reduceLeDiff, ↓Aun]
   rfl
theorem orV (x y : Int) : Awi Tryd.prog 98 [.sl 1 [i64 x, i64 y]] (fun r => r = i64 (orI x y)) := by
 refine AsZ.toPureV (AKH (by simp) ?_)
 simp -dsimp (disch := first | assumption | omega) only [↓AsU, AsP, AsT, AsR, eq_self, forall_const, Nat.reduceLT, Nat.reduceEqDiff, Nat.reduceSub, Nat.reduceMul, Nat.reduceMod, Nat.reduceDiv, Nat.reducePow, UInt8.reduceToNat, Int.reduceEq, Int.reduceLT, Int.reduceLE, ↓reduceIte, Nat.reduceAdd, Int.reduceToNat, reduceCtorEq, Nat.reduceLeDiff, ↓AwN]
 refine AtO (fun q e H => ∃ i : Nat, q = 2 - i ∧ i ≤ 2 ∧ (1 ≤ i → x = 0) ∧ (2 ≤ i → y = 0) ∧ e = [(3, i64 ((0 : Nat) : Int)), (6, .sl 1 [i64 x, i64 y]), (7, i64 ((2 : Nat) : Int)), (8, i64 ((i : Nat) : Int))] ∧ H = []) 2 ?_ ?_
 ·exact ⟨0, rfl, by omega, by omega, by omega, rfl, rfl⟩
 ·rintro q e H ⟨i, rfl, hi, h1, h2, rfl, rfl⟩
  rcases (show i = 0 ∨ i = 1 ∨ i = 2 by omega) with rfl | rfl | rfl
  ·by_cases hx : x = 0
   ·simp -dsimp (disch := first | assumption | omega) only [↓AsU, AsP, AsT, AsR, eq_self, forall_const, Nat.reduceLT, Nat.reduceEqDiff, Nat.reduceSub, Nat.reduceMul, Nat.reduceMod, Nat.reduceDiv, Nat.reducePow, UInt8.reduceToNat, Int.reduceEq, Int.reduceLT, Int.reduceLE, ↓reduceIte, Nat.reduceAdd, Int.reduceToNat, reduceCtorEq, Nat.reduceLeDiff, ↓AwN]
    exact Ate 1 (by omega) (by simp) ⟨1, rfl, by omega, fun _ => hx, by omega, by simp [forget, get], rfl⟩
   ·simp -dsimp (disch := first | assumption | omega) only [↓AsU, AsP, AsT, AsR, eq_self, forall_const, Nat.reduceLT, Nat.reduceEqDiff, Nat.reduceSub, Nat.reduceMul, Nat.reduceMod, Nat.reduceDiv, Nat.reducePow, UInt8.reduceToNat, Int.reduceEq, Int.reduceLT, Int.reduceLE, ↓reduceIte, Nat.reduceAdd, Int.reduceToNat, reduceCtorEq, Nat.reduceLeDiff, ↓AwN]
    unfold orI; rw [if_neg hx]
  ·by_cases hy : y = 0
   ·simp -dsimp (disch := first | assumption | omega) only [↓AsU, AsP, AsT, AsR, eq_self, forall_const, Nat.reduceLT, Nat.reduceEqDiff, Nat.reduceSub, Nat.reduceMul, Nat.reduceMod, Nat.reduceDiv, Nat.reducePow, UInt8.reduceToNat, Int.reduceEq, Int.reduceLT, Int.reduceLE, ↓reduceIte, Nat.reduceAdd, Int.reduceToNat, reduceCtorEq, Nat.reduceLeDiff, ↓AwN]
    exact Ate 0 (by omega) (by simp) ⟨2, rfl, by omega, fun _ => h1 (by omega), fun _ => hy, by simp [forget, get], rfl⟩
   ·simp -dsimp (disch := first | assumption | omega) only [↓AsU, AsP, AsT, AsR, eq_self, forall_const, Nat.reduceLT, Nat.reduceEqDiff, Nat.reduceSub, Nat.reduceMul, Nat.reduceMod, Nat.reduceDiv, Nat.reducePow, UInt8.reduceToNat, Int.reduceEq, Int.reduceLT, Int.reduceLE, ↓reduceIte, Nat.reduceAdd, Int.reduceToNat, reduceCtorEq, Nat.reduceLeDiff, ↓AwN]
    unfold orI; rw [if_pos (h1 (by omega))]
  ·simp -dsimp (disch := first | assumption | omega) only [↓AsU, AsP, AsT, AsR, eq_self, forall_const, Nat.reduceLT, Nat.reduceEqDiff, Nat.reduceSub, Nat.reduceMul, Nat.reduceMod, Nat.reduceDiv, Nat.reducePow, UInt8.reduceToNat, Int.reduceEq, Int.reduceLT, Int.reduceLE, ↓reduceIte, Nat.reduceAdd, Int.reduceToNat, reduceCtorEq, Nat.reduceLeDiff, ↓AwN]
   unfold orI; rw [if_pos (h1 (by omega)), h2 (by omega)]; rfl
/-- Ax0 a stand ahead of b? -/
def AGp (a b : Nd) : Bool := decide (orI (AWB b.tm a.tm) (Lib.compareBytes b.id a.id) < 0)
/-- A queue's row: n nodes. -/
def AI1 (H : List Ob) (r v : Nat) (n : Nat) (f : Nat → Nd) : Prop := ∃ N cs, H[r]? = some (.obj v (.arr N 22 cs)) ∧ (∀ i, i < n → cs[i]? = some (ndT (f i))) ∧ n ≤ 100000 ∧ ∀ i, i < n → (f i).id.length = 20
theorem lenV {H : List Ob} {r v n cp : Nat} {K : TV → List Ob → Prop} (hn : n ≤ 100000) (hK : K (i64 ((n : Nat) : Int)) H) : AsZ Tryd.prog 23 [.os 22 r v [] 0 n cp] H K := by
 refine AF1 (by simp) ?_
 simp -dsimp (disch := first | assumption | omega | (simp only [AsO]; done) | (simp only [AsO]; omega)) only [↓AsU, AsP, AsT, AsR, eq_self, forall_const, Nat.reduceLT, Nat.reduceEqDiff, Nat.reduceSub, Nat.reduceMul, Nat.reduceMod, Nat.reduceDiv, Nat.reducePow, UInt8.reduceToNat, Int.reduceEq, Int.reduceLT, Int.reduceLE, ↓reduceIte, Nat.reduceAdd, Int.reduceToNat, reduceCtorEq, Nat.reduceLeDiff, ↓AG9]
 exact hK
theorem AMh {z a b : TV} : ((List.replicate 2 z).set 0 a).set 1 b = [a, b] := by simp [List.replicate_succ]
theorem AJA {N j : Nat} {cs : List TV} {y : List UInt8} {p t : TV} (hg : cs[j]? = some (.agg [.arr 20 1 (y.map by8), p, t])) (h20 : y.length = 20) : Au1 [(j, j * 22), (0, 0)] 1 0 20 (.arr N 22 cs) = some (y.map by8) := by
 have h2 : (y.map by8).take 20 = y.map by8 := List.take_of_length_le (by simp [h20])
 simp [Au1, AzL, hg, h20, h2, As6, AtA]
theorem AQ1 {H : List Ob} {r v n cp : Nat} {f : Nat → Nd} (h : AI1 H r v n f) {i j : Nat} (hi : i < n) (hj : j < n) {K : TV → List Ob → Prop} (hK : ∀ T, K (tb (AGp (f i) (f j))) (H ++ T)) : AsZ Tryd.prog 94 [.os 22 r v [] 0 n cp, i64 ((i : Nat) : Int), i64 ((j : Nat) : Int)] H K := by
 obtain ⟨N, cs, hr, hcs, hn, h20⟩ := h
 have hrl := AsY hr
 have ci := hcs i hi
 have cj := hcs j hj
 rw [Atl] at ci cj
 refine AFF (by simp) ?_
 have hb : ∀ l : List UInt8, l.length = 20 → (l.map by8).take 20 = l.map by8 := fun l h => List.take_of_length_le (by simp [h])
 have h1 := hb _ (h20 i hi)
 have h2 := hb _ (h20 j hj)
 simp -dsimp (disch := first | assumption | omega | (simp only [AsO]; done) | (simp only [AsO]; omega)) only [↓AsU, AsP, AsT, AsR, eq_self, forall_const, Nat.reduceLT, Nat.reduceEqDiff, Nat.reduceSub, Nat.reduceMul, Nat.reduceMod, Nat.reduceDiv, Nat.reducePow, UInt8.reduceToNat, Int.reduceEq, Int.reduceLT, Int.reduceLE, ↓reduceIte, Nat.reduceAdd, Int.reduceToNat, reduceCtorEq, Nat.reduceLeDiff, ↓Avz, hr, ci, cj]
 refine ⟨i64 (AWB (f j).tm (f i).tm), (A5h _ _).calls rfl fun x hx => ⟨hx, rfl⟩, ?_⟩
 simp -dsimp (disch := first | assumption | omega | (simp only [AsO]; done) | (simp only [AsO]; omega)) only [↓AsU, AsP, AsT, AsR, eq_self, forall_const, Nat.reduceLT, Nat.reduceEqDiff, Nat.reduceSub, Nat.reduceMul, Nat.reduceMod, Nat.reduceDiv, Nat.reducePow, UInt8.reduceToNat, Int.reduceEq, Int.reduceLT, Int.reduceLE, ↓reduceIte, Nat.reduceAdd, Int.reduceToNat, reduceCtorEq, Nat.reduceLeDiff, ↓Avz, hr, ci, cj]
 refine (ATs (f j).id (f i).id).lends (args' := [slB (f j).id, slB (f i).id]) ?_ fun x hx => ⟨?_, ?_⟩
 ·simp -dsimp (disch := first | assumption | omega | (simp only [AsO]; done) | (simp only [AsO]; omega)) only [↓AsU, AsP, AsT, AsR, eq_self, forall_const, Nat.reduceLT, Nat.reduceEqDiff, Nat.reduceSub, Nat.reduceMul, Nat.reduceMod, Nat.reduceDiv, Nat.reducePow, UInt8.reduceToNat, Int.reduceEq, Int.reduceLT, Int.reduceLE, ↓reduceIte, Nat.reduceAdd, Int.reduceToNat, reduceCtorEq, Nat.reduceLeDiff, hr, AJA ci (h20 i hi), AJA cj (h20 j hj)]
 ·subst hx; rfl
 ·subst hx
  simp -dsimp (disch := first | assumption | omega | (simp only [AsO]; done) | (simp only [AsO]; omega)) only [↓AsU, AsP, AsT, AsR, eq_self, forall_const, Nat.reduceLT, Nat.reduceEqDiff, Nat.reduceSub, Nat.reduceMul, Nat.reduceMod, Nat.reduceDiv, Nat.reducePow, UInt8.reduceToNat, Int.reduceEq, Int.reduceLT, Int.reduceLE, ↓reduceIte, Nat.reduceAdd, Int.reduceToNat, reduceCtorEq, Nat.reduceLeDiff, ↓Avz, hr, ci, cj]
  refine (orV (AWB (f j).tm (f i).tm) (Lib.compareBytes (f j).id (f i).id)).lends (args' := [.sl 1 [i64 (AWB (f j).tm (f i).tm), i64 (Lib.compareBytes (f j).id (f i).id)]]) ?_ fun x hx => ⟨?_, ?_⟩
  ·simp -dsimp (disch := first | assumption | omega | (simp only [AsO]; done) | (simp only [AsO]; omega)) only [↓AsU, AsP, AsT, AsR, eq_self, forall_const, Nat.reduceLT, Nat.reduceEqDiff, Nat.reduceSub, Nat.reduceMul, Nat.reduceMod, Nat.reduceDiv, Nat.reducePow, UInt8.reduceToNat, Int.reduceEq, Int.reduceLT, Int.reduceLE, ↓reduceIte, Nat.reduceAdd, Int.reduceToNat, reduceCtorEq, Nat.reduceLeDiff, AMh]
  ·subst hx; rfl
  ·subst hx
   simp -dsimp (disch := first | assumption | omega | (simp only [AsO]; done) | (simp only [AsO]; omega)) only [↓AsU, AsP, AsT, AsR, eq_self, forall_const, Nat.reduceLT, Nat.reduceEqDiff, Nat.reduceSub, Nat.reduceMul, Nat.reduceMod, Nat.reduceDiv, Nat.reducePow, UInt8.reduceToNat, Int.reduceEq, Int.reduceLT, Int.reduceLE, ↓reduceIte, Nat.reduceAdd, Int.reduceToNat, reduceCtorEq, Nat.reduceLeDiff, ↓Avz]
   exact hK _
theorem AP2 {H : List Ob} {r v n cp : Nat} {f : Nat → Nd} (h : AI1 H r v n f) {i j : Nat} (hi : i < n) (hj : j < n) {K : TV → List Ob → Prop} (hK : ∀ o, AI1 (H.set r o) r v n (fun k => if k = i then f j else if k = j then f i else f k) → K (.tup []) (H.set r o)) : AsZ Tryd.prog 97 [.os 22 r v [] 0 n cp, i64 ((i : Nat) : Int), i64 ((j : Nat) : Int)] H K := by
 obtain ⟨N, cs, hr, hcs, hn, h20⟩ := h
 have hrl := AsY hr
 have ci := hcs i hi
 have cj := hcs j hj
 rw [Atl] at ci cj
 refine AFz (by simp) ?_
 have cj' : (cs.set i (.agg [.arr 20 1 ((f j).id.map by8), .sl 20 ((f j).ps.map idT), i64 (f j).tm]))[j]? = some (.agg [.arr 20 1 ((f j).id.map by8), .sl 20 ((f j).ps.map idT), i64 (f j).tm]) := by
  by_cases e : i = j
  ·subst e; exact List.getElem?_set_self (AsY ci)
  ·rw [List.getElem?_set_ne e]; exact cj
 simp -dsimp (disch := first | assumption | omega | (simp only [AsO]; done) | (simp only [AsO]; omega)) only [↓AsU, AsP, AsT, AsR, eq_self, forall_const, Nat.reduceLT, Nat.reduceEqDiff, Nat.reduceSub, Nat.reduceMul, Nat.reduceMod, Nat.reduceDiv, Nat.reducePow, UInt8.reduceToNat, Int.reduceEq, Int.reduceLT, Int.reduceLE, ↓reduceIte, Nat.reduceAdd, Int.reduceToNat, reduceCtorEq, Nat.reduceLeDiff, ↓AG3, hr, ci, cj, cj']
 rw [← Atl, ← Atl]
 have hl1 := AsY ci
 have hl2 := AsY cj
 refine hK _ ⟨N, _, List.getElem?_set_self hrl, fun k hk => ?_, hn, fun k hk => ?_⟩
 ·by_cases e2 : j = k
  ·subst e2
   rw [List.getElem?_set_self (by simpa using hl2)]
   by_cases e1 : j = i
   ·subst e1; simp
   ·simp [e1]
  ·rw [List.getElem?_set_ne e2]
   by_cases e1 : i = k
   ·subst e1; rw [List.getElem?_set_self hl1]; simp
   ·rw [List.getElem?_set_ne e1, hcs k hk]; simp [Ne.symm e1, Ne.symm e2]
 ·by_cases e1 : k = i
  ·simp only [e1, if_true]; exact h20 j hj
  ·by_cases e2 : k = j
   ·simp only [e1, e2, if_false, if_true]; split <;> first | exact h20 _ hj | exact h20 _ hi
   ·simp only [e1, e2, if_false]; exact h20 k hk
/-- Of the old objects none but two is another one. -/
def Fq (q r : Nat) (H H' : List Ob) : Prop := H.length ≤ H'.length ∧ ∀ i, i < H.length → i ≠ q → i ≠ r → H'[i]? = H[i]?
theorem Fq.refl {q r : Nat} {H : List Ob} : Fq q r H H := ⟨Nat.le_refl _, fun _ _ _ _ => rfl⟩
theorem Fq.trans {q r : Nat} {H H' H2 : List Ob} (h : Fq q r H H') (k : Fq q r H' H2) : Fq q r H H2 := ⟨Nat.le_trans h.1 k.1, fun i h1 h2 h3 => (k.2 i (Nat.lt_of_lt_of_le h1 h.1) h2 h3).trans (h.2 i h1 h2 h3)⟩
theorem Fq.setr {q r : Nat} {H : List Ob} {o : Ob} : Fq q r H (H.set r o) := ⟨by simp, fun i _ _ h => List.getElem?_set_ne (Ne.symm h)⟩
theorem Fq.setq {q r : Nat} {H : List Ob} {o : Ob} : Fq q r H (H.set q o) := ⟨by simp, fun i _ h _ => List.getElem?_set_ne (Ne.symm h)⟩
theorem Fq.app {q r : Nat} {H T : List Ob} : Fq q r H (H ++ T) := ⟨by simp, fun i h _ _ => List.getElem?_append_left h⟩
/-- A queue: n nodes. -/
def Qu (H : List Ob) (q r n : Nat) (f : Nat → Nd) : Prop := ∃ v cp, H[q]? = some (.obj 0 (.os 22 r v [] 0 n cp)) ∧ AI1 H r v n f ∧ n ≤ cp ∧ q ≠ r
theorem AI1.app {H T : List Ob} {r v n : Nat} {f : Nat → Nd} (h : AI1 H r v n f) : AI1 (H ++ T) r v n f := by
 obtain ⟨N, cs, h1, h2⟩ := h
 exact ⟨N, cs, by rw [List.getElem?_append_left (AsY h1)]; exact h1, h2⟩
theorem Qu.app {H T : List Ob} {q r n : Nat} {f : Nat → Nd} (h : Qu H q r n f) : Qu (H ++ T) q r n f := by
 obtain ⟨v, cp, h1, h2, h3⟩ := h
 exact ⟨v, cp, by rw [List.getElem?_append_left (AsY h1)]; exact h1, h2.app, h3⟩
theorem AZx {H : List Ob} {q r n : Nat} {f : Nat → Nd} (h : Qu H q r n f) (hn : n < 100000) {x : Nd} (hx : x.id.length = 20) {K : TV → List Ob → Prop} (hK : ∀ H', Qu H' q r (n + 1) (fun k => if k = n then x else f k) → Fq q r H H' → K (.tup []) H') : AsZ Tryd.prog 96 [.op q 0 [], .ifc 51 (ndT x)] H K := by
 obtain ⟨v, cp, hq, ⟨N, cs, hr, hcs, hn0, h20⟩, hcp, hne⟩ := h
 have hql := AsY hq
 have hrl := AsY hr
 refine AFs (by simp) ?_
 rw [Atl]
 have hcl : n ≤ cs.length := by
  rcases Nat.eq_zero_or_pos n with h0 | h0
  ·omega
  ·have := AsY (hcs (n - 1) (by omega)); omega
 simp -dsimp (disch := first | assumption | omega | (simp only [AsO]; done) | (simp only [AsO]; omega)) only [↓AsU, AsP, AsT, AsR, eq_self, forall_const, Nat.reduceLT, Nat.reduceEqDiff, Nat.reduceSub, Nat.reduceMul, Nat.reduceMod, Nat.reduceDiv, Nat.reducePow, UInt8.reduceToNat, Int.reduceEq, Int.reduceLT, Int.reduceLE, ↓reduceIte, Nat.reduceAdd, Int.reduceToNat, reduceCtorEq, Nat.reduceLeDiff, ↓AGU, hq, hr, hne, ABJ, Azz]
 rw [← Atl]
 have hne' : r ≠ q := Ne.symm hne
 have htl : (cs.take n).length = n := by simp [hcl]
 refine hK _ (Qu.app ⟨v + 1, n + 1, List.getElem?_set_self (by simpa using hql), ⟨n + 1, _, by rw [List.getElem?_set_ne hne, List.getElem?_set_self hrl], fun i hi => ?_, by omega, fun i hi => ?_⟩, Nat.le_refl _, hne⟩) ((Fq.setr.trans Fq.setq).trans Fq.app)
 ·by_cases e : i = n
  ·subst e
   rw [List.getElem?_append_right (by omega), htl]; simp
  ·rw [List.getElem?_append_left (by omega), List.getElem?_take, if_pos (by omega), hcs i (by omega)]; simp [e]
 ·by_cases e : i = n
  ·simp only [e, if_true]; exact hx
  ·simp only [e, if_false]; exact h20 i (by omega)
theorem A1I {H : List Ob} {q r n : Nat} {f : Nat → Nd} (h : Qu H q r (n + 1) f) {K : TV → List Ob → Prop} (hK : ∀ H', Qu H' q r n f → Fq q r H H' → K (.ifc 51 (ndT (f n))) H') : AsZ Tryd.prog 95 [.op q 0 []] H K := by
 obtain ⟨v, cp, hq, ⟨N, cs, hr, hcs, hn0, h20⟩, hcp, hne⟩ := h
 have hql := AsY hq
 have hrl := AsY hr
 have hc := hcs n (by omega)
 rw [Atl] at hc
 refine AGh (by simp) ?_
 simp -dsimp (disch := first | assumption | omega | (simp only [AsO]; done) | (simp only [AsO]; omega)) only [↓AsU, AsP, AsT, AsR, eq_self, forall_const, Nat.reduceLT, Nat.reduceEqDiff, Nat.reduceSub, Nat.reduceMul, Nat.reduceMod, Nat.reduceDiv, Nat.reducePow, UInt8.reduceToNat, Int.reduceEq, Int.reduceLT, Int.reduceLE, ↓reduceIte, Nat.reduceAdd, Int.reduceToNat, reduceCtorEq, Nat.reduceLeDiff, ↓AHd, hq, hr, hc, hne]
 rw [← Atl]
 refine hK _ (Qu.app ⟨v, cp, List.getElem?_set_self hql, ⟨N, cs, by rw [List.getElem?_set_ne hne]; exact hr, fun i hi => hcs i (by omega), by omega, fun i hi => h20 i (by omega)⟩, by omega, hne⟩) (Fq.setq.trans Fq.app)
end Go.Proofs.YtingoaihnlhiaaaDoor


namespace Go.Proofs.YtingoaihnlhiaaaDoor
open Go.RowKit
variable [Atj]
set_option linter.unusedSectionVars false
set_option linter.unusedVariables false
set_option linter.unusedSimpArgs false
set_option autoImplicit false

theorem AJc {a b : Nd} : AGp a b = true ↔ b.tm < a.tm ∨ (b.tm = a.tm ∧ ltB b.id a.id) := by
 unfold AGp orI AWB
 rw [decide_eq_true_eq]
 by_cases h1 : b.tm < a.tm
 ·simp [h1]
 ·by_cases h2 : a.tm < b.tm
  ·have h3 : ¬ b.tm = a.tm := by omega
   simp [h1, h2, h3]
  ·have h3 : b.tm = a.tm := by omega
   simp [h1, h2, h3, AMD]
/-- a does not stand behind b. -/
def Ra (a b : Nd) : Prop := AGp b a = false
theorem ANg {a b : Nd} : Ra a b ↔ ¬ (a.tm < b.tm ∨ (a.tm = b.tm ∧ ltB a.id b.id)) := by
 unfold Ra
 rw [← AJc, Bool.not_eq_true]
theorem Ra.trans {a b c : Nd} (h : Ra a b) (k : Ra b c) : Ra a c := by
 rw [ANg] at h k ⊢
 rintro (h1 | ⟨h1, h2⟩)
 ·by_cases h3 : a.tm < b.tm
  ·exact h (.inl h3)
  ·exact k (.inl (by omega))
 ·by_cases h3 : a.tm < b.tm
  ·exact h (.inl h3)
  ·by_cases h4 : b.tm < c.tm
   ·exact k (.inl h4)
   ·have e1 : a.tm = b.tm := by omega
    have e2 : b.tm = c.tm := by omega
    by_cases h5 : ltB a.id b.id
    ·exact h (.inr ⟨e1, h5⟩)
    ·by_cases h6 : ltB b.id c.id
     ·exact k (.inr ⟨e2, h6⟩)
     ·by_cases h7 : ltB b.id a.id
      ·exact h6 (AyA h7 h2)
      ·have := AEW h5 h7
       rw [this] at h2; exact h6 h2
theorem Ra.of_less {a b : Nd} (h : AGp a b = true) : Ra a b := by
 rw [ANg]
 rw [AJc] at h
 rintro (h1 | ⟨h1, h2⟩)
 ·rcases h with h | ⟨h, _⟩ <;> omega
 ·rcases h with h | ⟨h, h3⟩
  ·omega
  ·exact AwO _ (AyA h2 h3)
theorem Ra.refl (a : Nd) : Ra a a := by
 rw [ANg]
 rintro (h | ⟨_, h⟩)
 ·omega
 ·exact AwO _ h
/-- Of two with different ids one stands ahead. -/
theorem Ra.less {a b : Nd} (h : Ra a b) (hne : a.id ≠ b.id) : AGp a b = true := by
 rw [AJc]
 rw [ANg] at h
 by_cases h1 : b.tm < a.tm
 ·exact .inl h1
 ·by_cases h2 : a.tm < b.tm
  ·exact absurd (.inl h2) h
  ·refine .inr ⟨by omega, ?_⟩
   by_cases h3 : ltB b.id a.id
   ·exact h3
   ·by_cases h4 : ltB a.id b.id
    ·exact absurd (.inr ⟨by omega, h4⟩) h
    ·exact absurd (AEW h4 h3) hne

def sw {α : Type} (f : Nat → α) (i j : Nat) : Nat → α := fun k => if k = i then f j else if k = j then f i else f k
theorem AXN {α : Type} {f : Nat → α} {i j : Nat} : sw f i j i = f j := by simp [sw]
theorem AXh {α : Type} {f : Nat → α} {i j : Nat} : sw f i j j = f i := by
 unfold sw
 by_cases h : j = i
 ·subst h; simp
 ·simp [h]
theorem AMA {α : Type} {f : Nat → α} {i j k : Nat} (h1 : k ≠ i) (h2 : k ≠ j) : sw f i j k = f k := by simp [sw, h1, h2]
/-- The same things, in another order. -/
def Sh {α : Type} (n : Nat) (f g : Nat → α) : Prop := ∃ s t : Nat → Nat, (∀ k, k < n → s k < n ∧ t k < n ∧ s (t k) = k ∧ t (s k) = k) ∧ ∀ k, k < n → g k = f (s k)
theorem Sh.refl {α : Type} (n : Nat) (f : Nat → α) : Sh n f f := ⟨id, id, fun k h => ⟨h, h, rfl, rfl⟩, fun _ _ => rfl⟩
theorem Sh.trans {α : Type} {n : Nat} {f g h : Nat → α} (a : Sh n f g) (b : Sh n g h) : Sh n f h := by
 obtain ⟨s, t, h1, h2⟩ := a
 obtain ⟨s', t', k1, k2⟩ := b
 refine ⟨fun k => s (s' k), fun k => t' (t k), fun k hk => ⟨(h1 _ (k1 k hk).1).1, (k1 _ (h1 k hk).2.1).2.1, ?_, ?_⟩, fun k hk => by rw [k2 k hk, h2 _ (k1 k hk).1]⟩
 ·show s (s' (t' (t k))) = k
  rw [(k1 _ (h1 k hk).2.1).2.2.1, (h1 k hk).2.2.1]
 ·show t' (t (s (s' k))) = k
  rw [(h1 _ (k1 k hk).1).2.2.2, (k1 k hk).2.2.2]
theorem Sh.sw {α : Type} {n i j : Nat} (f : Nat → α) (hi : i < n) (hj : j < n) : Sh n f (sw f i j) := by
 refine ⟨fun k => if k = i then j else if k = j then i else k, fun k => if k = i then j else if k = j then i else k, fun k hk => ?_, fun k hk => ?_⟩
 ·have key : ∀ m, m < n → (if m = i then j else if m = j then i else m) < n := by intro m hm; split <;> first | exact hj | (split <;> first | exact hi | exact hm)
  have inv : (if (if k = i then j else if k = j then i else k) = i then j else if (if k = i then j else if k = j then i else k) = j then i else (if k = i then j else if k = j then i else k)) = k := by
   by_cases h1 : k = i
   ·by_cases h2 : j = i <;> simp [h1, h2]
   ·by_cases h2 : k = j
    ·simp [h1, h2]
    ·simp [h1, h2]
  exact ⟨key k hk, key k hk, inv, inv⟩
 ·unfold Go.Proofs.YtingoaihnlhiaaaDoor.sw
  by_cases h1 : k = i
  ·simp [h1]
  ·by_cases h2 : k = j
   ·subst h2; simp [h1]
   ·simp [h1, h2]
/-- What comes last stays: then the others are the same, too. -/
theorem Sh.cut {α : Type} {n : Nat} {f g : Nat → α} (h : Sh (n + 1) f g) (e : ∀ k, n ≤ k → g k = f k) : Sh n f g := by
 obtain ⟨s, t, h1, h2⟩ := h
 -- what went to the last place changes with what the last one's place got
 have hn := h1 n (by omega)
 refine ⟨fun k => if s k = n then s n else s k, fun k => if t k = n then t n else t k, fun k hk => ?_, fun k hk => ?_⟩
 ·have hk1 := h1 k (by omega)
  have inj : ∀ a b, a < n + 1 → b < n + 1 → s a = s b → a = b := fun a b ha hb e => by rw [← (h1 a ha).2.2.2, e, (h1 b hb).2.2.2]
  have injt : ∀ a b, a < n + 1 → b < n + 1 → t a = t b → a = b := fun a b ha hb e => by rw [← (h1 a ha).2.2.1, e, (h1 b hb).2.2.1]
  refine ⟨?_, ?_, ?_, ?_⟩
  ·by_cases c : s k = n
   ·simp only [c, if_true]
    have : s n ≠ n := fun c2 => by have := inj k n (by omega) (by omega) (by rw [c, c2]); omega
    omega
   ·simp only [c, if_false]; omega
  ·by_cases c : t k = n
   ·simp only [c, if_true]
    have : t n ≠ n := fun c2 => by have := injt k n (by omega) (by omega) (by rw [c, c2]); omega
    omega
   ·simp only [c, if_false]; omega
  ·show (if s (if t k = n then t n else t k) = n then s n else s (if t k = n then t n else t k)) = k
   by_cases c : t k = n
   ·rw [if_pos c, hn.2.2.1, if_pos rfl, ← c, hk1.2.2.1]
   ·rw [if_neg c, hk1.2.2.1, if_neg (by omega)]
  ·show (if t (if s k = n then s n else s k) = n then t n else t (if s k = n then s n else s k)) = k
   by_cases c : s k = n
   ·rw [if_pos c, hn.2.2.2, if_pos rfl, ← c, hk1.2.2.2]
   ·rw [if_neg c, hk1.2.2.2, if_neg (by omega)]
 ·show g k = f (if s k = n then s n else s k)
  by_cases c : s k = n
  ·rw [if_pos c, h2 k (by omega), c, ← e n (Nat.le_refl _), h2 n (by omega)]
  ·rw [if_neg c, h2 k (by omega)]
theorem Sh.mem {α : Type} {n : Nat} {f g : Nat → α} (h : Sh n f g) {x : α} : (∃ k, k < n ∧ g k = x) ↔ ∃ k, k < n ∧ f k = x := by
 obtain ⟨s, t, h1, h2⟩ := h
 constructor
 ·rintro ⟨k, hk, rfl⟩; exact ⟨s k, (h1 k hk).1, (h2 k hk).symm⟩
 ·rintro ⟨k, hk, rfl⟩; exact ⟨t k, (h1 k hk).2.1, by rw [h2 _ (h1 k hk).2.1, (h1 k hk).2.2.1]⟩
theorem Sh.inj {α β : Type} {n : Nat} {f g : Nat → α} (p : α → β) (h : Sh n f g) (hf : ∀ i j, i < n → j < n → p (f i) = p (f j) → i = j) : ∀ i j, i < n → j < n → p (g i) = p (g j) → i = j := by
 obtain ⟨s, t, h1, h2⟩ := h
 intro i j hi hj e
 rw [h2 i hi, h2 j hj] at e
 have := hf _ _ (h1 i hi).1 (h1 j hj).1 e
 rw [← (h1 i hi).2.2.2, this, (h1 j hj).2.2.2]

/-- A heap from lo on. -/
def Hp (lo n : Nat) (f : Nat → Nd) : Prop := ∀ j, 0 < j → j < n → lo ≤ (j - 1) / 2 → Ra (f ((j - 1) / 2)) (f j)
/-- .. but for what stands at i and its children. -/
def Dn (lo n : Nat) (f : Nat → Nd) (i : Nat) : Prop := (∀ j, 0 < j → j < n → lo ≤ (j - 1) / 2 → (j - 1) / 2 ≠ i → Ra (f ((j - 1) / 2)) (f j)) ∧ (0 < i → lo ≤ (i - 1) / 2 → ∀ c, 0 < c → c < n → (c - 1) / 2 = i → Ra (f ((i - 1) / 2)) (f c))
theorem Dn.start {lo n : Nat} {f : Nat → Nd} (h : Hp (lo + 1) n f) : Dn lo n f lo := by
 refine ⟨fun j h1 h2 h3 h4 => h j h1 h2 (by omega), fun h1 h2 c h3 h4 h5 => ?_⟩
 omega
theorem Dn.last {lo n : Nat} {f : Nat → Nd} {i : Nat} (h : Dn lo n f i) (hn : n ≤ 2 * i + 1) : Hp lo n f := fun j h1 h2 h3 => h.1 j h1 h2 h3 (by omega)
theorem Dn.done {lo n : Nat} {f : Nat → Nd} {i c : Nat} (h : Dn lo n f i) (hc : ∀ d, 0 < d → d < n → (d - 1) / 2 = i → Ra (f c) (f d)) (hr : Ra (f i) (f c)) : Hp lo n f := fun j h1 h2 h3 => by
 by_cases e : (j - 1) / 2 = i
 ·rw [e]; exact hr.trans (hc j h1 h2 e)
 ·exact h.1 j h1 h2 h3 e
theorem Dn.step {lo n : Nat} {f : Nat → Nd} {i c : Nat} (h : Dn lo n f i) (hlo : lo ≤ i) (hc0 : 0 < c) (hcn : c < n) (hci : (c - 1) / 2 = i) (hc : ∀ d, 0 < d → d < n → (d - 1) / 2 = i → Ra (f c) (f d)) (hl : AGp (f c) (f i) = true) : Dn lo n (sw f i c) c := by
 have hic : i < c := by omega
 refine ⟨fun j h1 h2 h3 h4 => ?_, fun h1 h2 d h3 h4 h5 => ?_⟩
 ·by_cases e : (j - 1) / 2 = i
  ·rw [e, AXN]
   by_cases e2 : j = c
   ·subst e2; rw [AXh]; exact Ra.of_less hl
   ·rw [AMA (by omega) e2]; exact hc j h1 h2 e
  ·rw [AMA e h4]
   by_cases e2 : j = i
   ·subst e2
    rw [AXN]
    exact h.2 h1 h3 c hc0 hcn hci
   ·by_cases e3 : j = c
    ·subst e3; exact absurd hci e
    ·rw [AMA e2 e3]; exact h.1 j h1 h2 h3 e
 ·rw [hci, AXN, AMA (by omega) (by omega)]
  have := h.1 d h3 h4 (by omega) (by omega)
  rwa [h5] at this
/-- A heap but for what stands at j. -/
def Up (n : Nat) (f : Nat → Nd) (j : Nat) : Prop := (∀ k, 0 < k → k < n → k ≠ j → Ra (f ((k - 1) / 2)) (f k)) ∧ (0 < j → ∀ c, 0 < c → c < n → (c - 1) / 2 = j → Ra (f ((j - 1) / 2)) (f c))
theorem Up.start {n : Nat} {f : Nat → Nd} (h : Hp 0 n f) (x : Nd) : Up (n + 1) (fun k => if k = n then x else f k) n := by
 refine ⟨fun k h1 h2 h3 => ?_, fun h1 c h2 h3 h4 => by omega⟩
 have e : (k - 1) / 2 ≠ n := by omega
 simp only [h3, e, if_false]
 exact h k h1 (by omega) (by omega)
theorem Up.top {n : Nat} {f : Nat → Nd} (h : Up n f 0) : Hp 0 n f := fun k h1 h2 _ => h.1 k h1 h2 (by omega)
theorem Up.done {n j : Nat} {f : Nat → Nd} (h : Up n f j) (hr : Ra (f ((j - 1) / 2)) (f j)) : Hp 0 n f := fun k h1 h2 _ => by
 by_cases e : k = j
 ·subst e; exact hr
 ·exact h.1 k h1 h2 e
theorem Up.step {n j : Nat} {f : Nat → Nd} (h : Up n f j) (hj : 0 < j) (hjn : j < n) (hl : AGp (f j) (f ((j - 1) / 2)) = true) : Up n (sw f ((j - 1) / 2) j) ((j - 1) / 2) := by
 generalize hi : (j - 1) / 2 = i at *
 have hij : i < j := by omega
 have hr := Ra.of_less hl
 refine ⟨fun k h1 h2 h3 => ?_, fun h0 c h1 h2 h3 => ?_⟩
 ·by_cases e : k = j
  ·subst e; rw [hi, AXN, AXh]; exact hr
  ·by_cases e2 : (k - 1) / 2 = i
   ·rw [e2, AXN, AMA h3 e]
    have := h.1 k h1 h2 e
    rw [e2] at this; exact hr.trans this
   ·by_cases e3 : (k - 1) / 2 = j
    ·rw [e3, AXh, AMA h3 e]
     have := h.2 hj k h1 h2 e3
     rwa [hi] at this
    ·rw [AMA e2 e3, AMA h3 e]; exact h.1 k h1 h2 e
 ·have hp : (i - 1) / 2 ≠ i := by omega
  have hp2 : (i - 1) / 2 ≠ j := by omega
  have hpi := h.1 i h0 (by omega) (by omega)
  rw [AMA hp hp2]
  by_cases e : c = j
  ·subst e; rw [AXh]; exact hpi
  ·rw [AMA (by omega) e]
   have := h.1 c h1 h2 e
   rw [h3] at this
   exact hpi.trans this
/-- The first one stands behind none. -/
theorem Hp.first {n : Nat} {f : Nat → Nd} (h : Hp 0 n f) : ∀ k, k < n → Ra (f 0) (f k) := by
 intro k
 induction k using Nat.strongRecOn with
 | ind k ih =>
  intro hk
  rcases Nat.eq_zero_or_pos k with rfl | h0
  ·exact Ra.refl _
  ·exact (ih ((k - 1) / 2) (by omega) (by omega)).trans (h k h0 hk (by omega))
/-- The first one and the last one change places. -/
theorem Hp.cut {n : Nat} {f : Nat → Nd} (h : Hp 0 (n + 1) f) : Hp 1 n (sw f 0 n) := fun j h1 h2 h3 => by
 rw [AMA (by omega) (by omega), AMA (by omega) (by omega)]
 exact h j h1 (by omega) (by omega)
end Go.Proofs.YtingoaihnlhiaaaDoor

