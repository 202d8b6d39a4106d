/- What the proof of DiffAppliesCard stands on (texts merged; names shortened by a program): part 6. -/
import Derived.Test.YtkoilgokgaigbaaGreatDoorQE
import Derived.Test.YtkoilgokgaigbaaGreatDoorProg
import Derived.KernelRfl
import Derived.Lib.Strings
import Derived.Test.YtkoilgokgaigbaaGreatDoorQD
import Derived.WalkKit
import Derived.LaidEql
import Derived.Stop.Asserts
import Derived.RowKitTokens
import Derived.Lib.BytesEntry
import Derived.Shelf.Bytes.SlIndexAt
import Derived.Shelf.Strings.OnBuilder
set_option linter.defProp false
set_option linter.unusedSectionVars false
set_option linter.unusedSimpArgs false
set_option linter.unusedVariables false
namespace Go.Proofs.YtkoilgokgaigbaaGreatDoor
section
variable [AtW]
set_option maxRecDepth 100000
def AB6:Atc := .seq (.seq (.draw 9 [mv_ 58 10,mv_ 59 8,po_ 60 (.lenV (.t 59)),po_ 61 (.bin 3 .eql (.t 58) (.t 60)),mv_ 62 61,⟨some 63,.p (.mov (.t 8)),some ⟨62,false⟩⟩,⟨some 64,.p (.mov (.t 10)),some ⟨62,false⟩⟩,⟨some 65,.p (.idxA 1 (.t 63) (.t 64)),some ⟨62,false⟩⟩,⟨some 66,.p (.load false 1 (.t 65)),some ⟨62,false⟩⟩,⟨some 67,.p (.fieldA 1 1 (.t 14)),some ⟨62,false⟩⟩,⟨some 68,.p (.load false 1 (.t 67)),some ⟨62,false⟩⟩,⟨some 69,.p (.bin 9 .neq (.t 66) (.t 68)),some ⟨62,false⟩⟩,po_ 70 (.pick (.t 62) (.c (.bool true)) (.t 69))] [8,9,10,14,27,28,29,49,50,51,70])
 (.cond (.t 70)
 (.seq (.ops [po_ 71 (.iface 31 (ci_ 91)),po_ 4 (.mov (.c (.slice none 0 0))),mv_ 5 71] [4,5])
  (.ret))
 (.skip)))
 (.ops [mv_ 72 10,po_ 73 (.bin 3 .add (.t 72) (ci_ 1)),mv_ 10 73] [8,9,10,14,27,28,29,49,50,51])
def ACa:Atc := .cond (.t 57)
 AB6
 (.skip)
def AB7:Atc := .seq (.seq (.ops [po_ 55 (.fieldA 0 0 (.t 14)),po_ 56 (.load false 1 (.t 55)),po_ 57 (.bin 36 .neq (.t 56) (ci_ 2))] [8,9,10,14,27,28,29,49,50,51,57])
 ACa)
 (.seq (.ops [po_ 74 (.fieldA 0 0 (.t 14)),po_ 75 (.load false 1 (.t 74)),po_ 76 (.bin 36 .neq (.t 75) (ci_ 1))] [8,9,10,14,27,28,29,49,50,51,76])
 (.cond (.t 76)
 (.ops [mv_ 77 9,po_ 78 (.fieldA 1 1 (.t 14)),po_ 79 (.load false 1 (.t 78)),⟨some 80,.s (.bslice 1 1 (.val (.string (str []))) [⟨0,.t 79⟩]),none⟩,so_ 81 (.app 1 16 9 (.t 77) (.t 80)),mv_ 9 81] [8,9,10,27,28,29,49,50,51])
 (.skip)))
def ABS:Atc := .seq (.block 3 (.seq (.ops [po_ 53 (.idxA 2 (.t 49) (.t 51)),po_ 54 (.load true 2 (.t 53)),so_ 14 (.alloc (.agg [.val (.int .i64 ((0:Nat):Int)),.val (.string (str []))])),⟨none,.s (.store 2 (.t 14) (.t 54)),none⟩] [8,9,10,14,27,28,29,49,50,51])
 AB7))
 (.ops [po_ 82 (.bin 3 .add (.t 51) (ci_ 1)),mv_ 51 82] [8,9,10,27,28,29,49,50,51])
def ABH:Atc := .seq (.cond (.t 52)
 (.skip)
 (.exit 2))
 ABS
def AB2:Atc := .seq (.ops [po_ 52 (.bin 3 .lss (.t 51) (.t 50))] [8,9,10,27,28,29,49,50,51,52])
 ABH
def AxL:Atc := .block 2 (.own 9 1 (.loop [8,9,10,27,28,29,49,50,51] AB2))
def ABQ:Atc := .seq (.ops [po_ 48 (.fieldA 2 2 (.t 12)),po_ 49 (.load false 1 (.t 48)),po_ 50 (.lenV (.t 49)),po_ 51 (.mov (ci_ 0))] [8,9,10,27,28,29,49,50,51])
 AxL
def ABE:Atc := .seq (.ops [po_ 46 (.fieldA 0 0 (.t 12)),po_ 47 (.load false 1 (.t 46)),mv_ 10 47] [8,9,10,12,27,28,29])
 ABQ
def AAr:Atc := .seq (.ops [mv_ 39 9,mv_ 40 8,mv_ 41 10,po_ 42 (.fieldA 0 0 (.t 12)),po_ 43 (.load false 1 (.t 42)),po_ 44 (.slV 1 (.t 40) (some (.t 41)) (some (.t 43))),so_ 45 (.app 1 16 9 (.t 39) (.t 44)),mv_ 9 45] [8,9,12,27,28,29])
 ABE
def ABb:Atc := .seq (.seq (.ops [po_ 33 (.fieldA 0 0 (.t 12)),po_ 34 (.load false 1 (.t 33)),mv_ 35 8,po_ 36 (.lenV (.t 35)),po_ 37 (.bin 3 .gtr (.t 34) (.t 36))] [8,9,10,12,27,28,29,37])
 (.cond (.t 37)
 (.seq (.ops [po_ 38 (.iface 31 (ci_ 91)),po_ 4 (.mov (.c (.slice none 0 0))),mv_ 5 38] [4,5])
  (.ret))
 (.skip)))
 AAr
def AAQ:Atc := .ops [po_ 83 (.bin 3 .add (.t 29) (ci_ 1)),mv_ 29 83] [8,9,10,27,28,29]
def ABd:Atc := .seq (.block 1 (.seq (.ops [po_ 31 (.idxA 3 (.t 27) (.t 29)),po_ 32 (.load true 3 (.t 31)),so_ 12 (.alloc (.agg [.val (.int .i64 ((0:Nat):Int)),.val (.int .i64 ((0:Nat):Int)),.val (.slice none 0 0)])),⟨none,.s (.store 3 (.t 12) (.t 32)),none⟩] [8,9,10,12,27,28,29])
 ABb))
 AAQ
def AAT:Atc := .seq (.cond (.t 30)
 (.skip)
 (.exit 0))
 ABd
def AAs:Atc := .seq (.ops [po_ 30 (.bin 3 .lss (.t 29) (.t 28))] [8,9,10,27,28,29,30])
 AAT
def AAA:Atc := .block 0 (.own 9 1 (.loop [8,9,10,27,28,29] AAs))
def AAm:Atc := .seq (.ops [mv_ 96 15,po_ 97 (.bin 3 .add (.t 96) (ci_ 1)),mv_ 98 9,po_ 99 (.lenV (.t 98)),po_ 100 (.bin 3 .lss (.t 97) (.t 99)),mv_ 101 100,⟨some 102,.p (.mov (.t 16)),some ⟨101,true⟩⟩,⟨some 103,.s (.call 16 [.t 102,.c (.string (str [10]))]),some ⟨101,true⟩⟩,⟨some 104,.p (.un .not (.t 103)),some ⟨101,true⟩⟩,po_ 105 (.pick (.t 101) (.t 104) (.c (.bool false)))] [9,89,90,91,105])
 (.cond (.t 105)
 (.seq (.ops [po_ 106 (.iface 31 (ci_ 91)),po_ 4 (.mov (.c (.slice none 0 0))),mv_ 5 106] [4,5])
  (.ret))
 (.skip))
def AAt:Atc := .seq (.block 5 (.seq (.ops [mv_ 93 91,po_ 94 (.idxA 1 (.t 89) (.t 91)),po_ 95 (.load false 1 (.t 94)),mv_ 15 93,mv_ 16 95] [9,15,16,89,90,91])
 AAm))
 (.ops [po_ 107 (.bin 3 .add (.t 91) (ci_ 1)),mv_ 91 107] [9,89,90,91])
def AAy:Atc := .seq (.cond (.t 92)
 (.skip)
 (.exit 4))
 AAt
def AAC:Atc := .seq (.ops [po_ 92 (.bin 3 .lss (.t 91) (.t 90))] [9,89,90,91,92])
 AAy
def AAG:Atc := .block 4 (.loop [9,89,90,91] AAC)
def AAu:Atc := .seq (.ops [mv_ 108 9,so_ 109 (.call 17 [.t 108,.c (.string (str []))]),so_ 110 (.s2b (.t 109)),mv_ 4 110,po_ 5 (.mov (.c .nilIface))] [4,5])
 (.ret)
def Axw:Atc := .seq (.seq (.ops [mv_ 89 9,po_ 90 (.lenV (.t 89)),po_ 91 (.mov (ci_ 0))] [9,89,90,91])
 AAG)
 AAu
def AAS:Atc := .seq (.ops [mv_ 84 9,mv_ 85 8,mv_ 86 10,po_ 87 (.slV 1 (.t 85) (some (.t 86)) none),so_ 88 (.app 1 16 9 (.t 84) (.t 87)),mv_ 9 88] [9])
 Axw
def AAx:Atc := .seq (.seq (.ops [mv_ 27 6,po_ 28 (.lenV (.t 27)),po_ 29 (.mov (ci_ 0))] [8,9,10,27,28,29])
 AAA)
 AAS
def ABg:Atc := .seq (.ops [po_ 10 (.mov (ci_ 0))] [6,8,9,10])
 AAx
def AAH:Atc := .seq (.ops [po_ 9 (.mov (.c (.slice none 0 0)))] [6,8,9])
 ABg
def AAw:Atc := .seq (.ops [mv_ 25 0,so_ 26 (.call 15 [.t 25]),mv_ 8 26] [6,8])
 AAH
def AAI:Atc := .seq (.seq (.ops [mv_ 22 7,po_ 23 (.eqN 1 (.t 22) (.c .nilIface) true)] [0,6,7,23])
 (.cond (.t 23)
 (.seq (.ops [mv_ 24 7,po_ 4 (.mov (.c (.slice none 0 0))),mv_ 5 24] [4,5])
  (.ret))
 (.skip)))
 AAw
def ABh:Atc := .seq (.ops [mv_ 18 1,so_ 19 (.call 14 [.t 18]),mv_ 17 19,po_ 20 (.ext 0 (.t 17)),po_ 21 (.ext 1 (.t 17)),mv_ 6 20,mv_ 7 21] [0,6,7])
 AAI
def AF9:Atc := .seq (.ops [po_ 4 (.mov (.c (.slice none 0 0))),po_ 5 (.mov (.c .nilIface))] [0,1])
 ABh
def ABt:List VR:=[.tmp 4,.tmp 5]
theorem AJR:Tryz.f6.body.bind (trC Tryz.prog Tryz.f6.ntmps)=some (er AF9):=by kernel_rfl
theorem AJY:trR Tryz.prog Tryz.f6.results.toList=some ABt:=by kernel_rfl
def AFC:=As9 AB6.eq_1
def AFn:=As9 ACa.eq_1
def AFs:=As9 AB7.eq_1
def AFy:=As9 ABS.eq_1
def AFA:=As9 ABH.eq_1
def AFe:=As9 AB2.eq_1
def AFi:=As9 AxL.eq_1
def AyR:=As9 ABQ.eq_1
def Azu:=As9 ABE.eq_1
def Ayk:=As9 AAr.eq_1
def Ax9:=As9 ABb.eq_1
def Ayn:=As9 AAQ.eq_1
def Ayx:=As9 ABd.eq_1
def AvR:=As9 AAT.eq_1
def AvJ:=As9 AAs.eq_1
def AEP:=As9 AAA.eq_1
def AEb:=As9 AAm.eq_1
def AE7:=As9 AAt.eq_1
def AEI:=As9 AAy.eq_1
def AEO:=As9 AAC.eq_1
def AD5:=As9 AAG.eq_1
def AEv:=As9 AAu.eq_1
def AD2:=As9 Axw.eq_1
def Ayg:=As9 AAS.eq_1
def AEt:=As9 AAx.eq_1
def AE3:=As9 ABg.eq_1
def AEe:=As9 AAH.eq_1
def AEs:=As9 AAw.eq_1
def AE1:=As9 AAI.eq_1
def AEV:=As9 ABh.eq_1
def AH2:=As9 AF9.eq_1
theorem AyD {K:TV→Prop} {e:Env} {H:List Ob}:res ABt e H K=res [.tmp 4,.tmp 5] e H K:=As8 rfl
def AtN:=(aI_ (aI_ (aI_ (aI_ (aI_ @AFC @AFn) (aI_ @AFs @AFy)) (aI_ (aI_ @AFA @AFe) (aI_ @AFi @AyR))) (aI_ (aI_ (aI_ @Azu @Ayk) (aI_ @Ax9 @Ayn)) (aI_ (aI_ @Ayx @AvR) (aI_ @AvJ @AEP)))) (aI_ (aI_ (aI_ (aI_ @AEb @AE7) (aI_ @AEI @AEO)) (aI_ (aI_ @AD5 @AEv) (aI_ @AD2 @Ayg))) (aI_ (aI_ (aI_ @AEt @AE3) (aI_ @AEe @AEs)) (aI_ (aI_ @AE1 @AEV) (aI_ @AH2 @AyD)))))
def AII:=AxF 111 Tryz.func6 AJR AJY rfl
def ACY:Atc := .seq (.ops [po_ 47 (.fieldA 0 0 (.t 8)),po_ 48 (.load false 1 (.t 47)),mv_ 49 9,po_ 50 (.bin 3 .add (.t 48) (.t 49)),mv_ 51 7,mv_ 52 10,po_ 53 (.bin 3 .add (.t 51) (.t 52)),mv_ 54 9,po_ 55 (.bin 3 .sub (.t 53) (.t 54)),mv_ 6 50,mv_ 7 55] [4,5,6,7,8])
 (.ops [mv_ 56 5,po_ 57 (.load true 3 (.t 8)),⟨some 58,.s (.bslice 3 1 (.agg [.val (.int .i64 ((0:Nat):Int)),.val (.int .i64 ((0:Nat):Int)),.val (.slice none 0 0)]) [⟨0,.t 57⟩]),none⟩,so_ 59 (.app 3 40 45 (.t 56) (.t 58)),mv_ 5 59] [4,5,6,7])
def ACQ:Atc := .seq (.ops [po_ 43 (.load true 3 (.t 8)),so_ 44 (.call 28 [.t 43]),mv_ 42 44,po_ 45 (.ext 0 (.t 42)),po_ 46 (.ext 1 (.t 42)),mv_ 9 45,mv_ 10 46] [4,5,7,8,9,10])
 ACY
def ACZ:Atc := .seq (.seq (.ops [mv_ 22 4,po_ 23 (.nilc (.t 22)),po_ 24 (.fieldA 1 1 (.t 23)),po_ 25 (.load false 1 (.t 24)),mv_ 26 25,⟨some 27,.p (.fieldA 0 0 (.t 8)),some ⟨26,false⟩⟩,⟨some 28,.p (.load false 1 (.t 27)),some ⟨26,false⟩⟩,⟨some 29,.p (.mov (.t 6)),some ⟨26,false⟩⟩,⟨some 30,.p (.bin 3 .lss (.t 28) (.t 29)),some ⟨26,false⟩⟩,po_ 31 (.pick (.t 26) (.c (.bool true)) (.t 30)),mv_ 32 31,⟨some 33,.p (.fieldA 1 1 (.t 8)),some ⟨32,false⟩⟩,⟨some 34,.p (.load false 1 (.t 33)),some ⟨32,false⟩⟩,⟨some 35,.p (.fieldA 0 0 (.t 8)),some ⟨32,false⟩⟩,⟨some 36,.p (.load false 1 (.t 35)),some ⟨32,false⟩⟩,⟨some 37,.p (.mov (.t 7)),some ⟨32,false⟩⟩,⟨some 38,.p (.bin 3 .add (.t 36) (.t 37)),some ⟨32,false⟩⟩,⟨some 39,.p (.bin 3 .neq (.t 34) (.t 38)),some ⟨32,false⟩⟩,po_ 40 (.pick (.t 32) (.c (.bool true)) (.t 39))] [4,5,7,8,40])
 (.cond (.t 40)
 (.seq (.ops [po_ 41 (.iface 31 (ci_ 90)),po_ 2 (.mov (.c (.slice none 0 0))),mv_ 3 41] [2,3])
  (.ret))
 (.skip)))
 ACQ
def ACP:Atc := .block 1 (.seq (.ops [mv_ 20 4,so_ 21 (.call 27 [.t 20]),so_ 8 (.alloc (.agg [.val (.int .i64 ((0:Nat):Int)),.val (.int .i64 ((0:Nat):Int)),.val (.slice none 0 0)])),⟨none,.s (.store 3 (.t 8) (.t 21)),none⟩] [4,5,6,7,8])
 ACZ)
def ACS:Atc := .seq (.seq (.ops [mv_ 15 4,po_ 16 (.nilc (.t 15)),po_ 17 (.fieldA 0 0 (.t 16)),po_ 18 (.load false 1 (.t 17)),po_ 19 (.bin 9 .neq (.t 18) (.c (.string (str []))))] [4,5,6,7,19])
 (.cond (.t 19)
 (.skip)
 (.exit 0)))
 ACP
def AC4:Atc := .seq (.ops [mv_ 60 5,mv_ 2 60,po_ 3 (.mov (.c .nilIface))] [2,3])
 (.ret)
def AC1:Atc := .seq (.block 0 (.own 5 3 (.loop [4,5,6,7] ACS)))
 AC4
def AC2:Atc := .seq (.ops [po_ 6 (.mov (ci_ 0)),po_ 7 (.mov (ci_ 0))] [4,5,6,7])
 AC1
def ACN:Atc := .seq (.ops [po_ 5 (.mov (.c (.slice none 0 0)))] [4,5])
 AC2
def ABw:Atc := .seq (.ops [mv_ 11 0,po_ 12 (.b2s (.t 11)),⟨some 13,.p (.build [.val (.string (str [])),.val (.bool false)] [1,1] [⟨0,.t 12⟩]),none⟩,so_ 14 (.box (.t 13)),mv_ 4 14] [4])
 ACN
def AHd:Atc := .seq (.ops [po_ 2 (.mov (.c (.slice none 0 0))),po_ 3 (.mov (.c .nilIface))] [0])
 ABw
def AHl:List VR:=[.tmp 2,.tmp 3]
theorem ALs:Tryz.f14.body.bind (trC Tryz.prog Tryz.f14.ntmps)=some (er AHd):=by kernel_rfl
theorem ALh:trR Tryz.prog Tryz.f14.results.toList=some AHl:=by kernel_rfl
def AGs:=As9 ACY.eq_1
def AGv:=As9 ACQ.eq_1
def AGE:=As9 ACZ.eq_1
def AGH:=As9 ACP.eq_1
def AGw:=As9 ACS.eq_1
def AGC:=As9 AC4.eq_1
def AGu:=As9 AC1.eq_1
def AGz:=As9 AC2.eq_1
def AGt:=As9 ACN.eq_1
def AFV:=As9 ABw.eq_1
def AIU:=As9 AHd.eq_1
theorem AI8 {K:TV→Prop} {e:Env} {H:List Ob}:res AHl e H K=res [.tmp 2,.tmp 3] e H K:=As8 rfl
def Avn:=(aI_ (aI_ (aI_ (aI_ @AGs @AGv) (aI_ @AGE @AGH)) (aI_ (aI_ @AGw @AGC) (aI_ @AGu @AGz))) (aI_ (aI_ @AGt @AFV) (aI_ @AIU @AI8)))
def AJF:=AxF 61 Tryz.func14 ALs ALh rfl
def Axa:Atc := .ops [mv_ 15 0,mv_ 16 0,mv_ 17 4,mv_ 18 0,po_ 19 (.nilc (.t 18)),po_ 20 (.fieldA 1 1 (.t 19)),po_ 21 (.load false 1 (.t 20)),mv_ 22 21,⟨some 23,.p (.mov (.t 5)),some ⟨22,false⟩⟩,⟨some 24,.p (.un .not (.t 23)),some ⟨22,false⟩⟩,po_ 25 (.pick (.t 22) (.c (.bool true)) (.t 24)),po_ 26 (.nilc (.t 15)),po_ 27 (.fieldA 0 0 (.t 26)),⟨none,.s (.store 1 (.t 27) (.t 17)),none⟩,po_ 28 (.nilc (.t 16)),po_ 29 (.fieldA 1 1 (.t 28)),⟨none,.s (.store 1 (.t 29) (.t 25)),none⟩] []
def Ayj:Atc := .seq (.ops [mv_ 7 0,po_ 8 (.nilc (.t 7)),po_ 9 (.fieldA 0 0 (.t 8)),po_ 10 (.load false 1 (.t 9)),mv_ 11 1,so_ 12 (.call 53 [.t 10,.t 11]),mv_ 6 12,po_ 13 (.ext 0 (.t 6)),po_ 14 (.ext 1 (.t 6)),mv_ 4 13,mv_ 5 14] [0,4,5])
 Axa
def Ayf:List VR:=[]
theorem AET:Tryz.f40.body.bind (trC Tryz.prog Tryz.f40.ntmps)=some (er Ayj):=by kernel_rfl
theorem AEJ:trR Tryz.prog Tryz.f40.results.toList=some Ayf:=by kernel_rfl
def Az7:=As9 Axa.eq_1
def ACx:=As9 Ayj.eq_1
theorem ACG {K:TV→Prop} {e:Env} {H:List Ob}:res Ayf e H K=res [] e H K:=As8 rfl
def ADd:=AxF 30 Tryz.func40 AET AEJ rfl
def AvX:Atc := .seq (.ops [mv_ 39 0,mv_ 40 0,po_ 41 (.nilc (.t 40)),po_ 42 (.fieldA 1 1 (.t 41)),po_ 43 (.load false 1 (.t 42)),mv_ 44 43,⟨some 45,.p (.mov (.t 6)),some ⟨44,false⟩⟩,⟨some 46,.p (.eqN 1 (.t 45) (.c .nilIface) true),some ⟨44,false⟩⟩,po_ 47 (.pick (.t 44) (.c (.bool true)) (.t 46)),mv_ 48 47,⟨some 49,.p (.mov (.t 3)),some ⟨48,false⟩⟩,⟨some 50,.p (.bin 3 .gtr (.t 49) (ci_ 9)),some ⟨48,false⟩⟩,po_ 51 (.pick (.t 48) (.c (.bool true)) (.t 50)),mv_ 52 51,⟨some 53,.p (.mov (.t 5)),some ⟨52,false⟩⟩,⟨some 54,.s (.call 52 [.t 53]),some ⟨52,false⟩⟩,⟨some 55,.p (.mov (.t 4)),some ⟨52,false⟩⟩,⟨some 56,.p (.bin 9 .neq (.t 54) (.t 55)),some ⟨52,false⟩⟩,po_ 57 (.pick (.t 52) (.c (.bool true)) (.t 56)),po_ 58 (.nilc (.t 39)),po_ 59 (.fieldA 1 1 (.t 58)),⟨none,.s (.store 1 (.t 59) (.t 57)),none⟩] [5])
 (.seq (.ops [mv_ 60 5,mv_ 2 60] [2])
 (.ret))
def AvN:Atc := .seq (.ops [mv_ 35 4,so_ 36 (.call 63 [.t 35]),mv_ 34 36,po_ 37 (.ext 0 (.t 34)),po_ 38 (.ext 1 (.t 34)),mv_ 5 37,mv_ 6 38] [0,3,4,5,6])
 AvX
def Av2:Atc := .seq (.ops [mv_ 25 0,mv_ 26 0,po_ 27 (.nilc (.t 26)),po_ 28 (.fieldA 0 0 (.t 27)),po_ 29 (.load false 1 (.t 28)),mv_ 30 3,po_ 31 (.slS (.t 29) (some (.t 30)) none),po_ 32 (.nilc (.t 25)),po_ 33 (.fieldA 0 0 (.t 32)),⟨none,.s (.store 1 (.t 33) (.t 31)),none⟩] [0,3,4])
 AvN
def AvZ:Atc := .seq (.ops [mv_ 19 0,po_ 20 (.nilc (.t 19)),po_ 21 (.fieldA 0 0 (.t 20)),po_ 22 (.load false 1 (.t 21)),mv_ 23 3,po_ 24 (.slS (.t 22) none (some (.t 23))),mv_ 4 24] [0,3,4])
 Av2
def AvP:Atc := .seq (.sdraw 5 [mv_ 7 0,po_ 8 (.nilc (.t 7)),po_ 9 (.fieldA 0 0 (.t 8)),po_ 10 (.load false 1 (.t 9)),po_ 11 (.lenS (.t 10)),mv_ 12 0,po_ 13 (.nilc (.t 12)),po_ 14 (.fieldA 0 0 (.t 13)),po_ 15 (.load false 1 (.t 14)),so_ 16 (.call 62 [.t 15,.c (.string (str [48,49,50,51,52,53,54,55,56,57]))]),po_ 17 (.lenS (.t 16)),po_ 18 (.bin 3 .sub (.t 11) (.t 17)),mv_ 3 18] [0,3])
 AvZ
def AxA:Atc := .seq (.ops [po_ 2 (.mov (ci_ 0))] [0])
 AvP
def Axy:List VR:=[.tmp 2]
theorem ACp:Tryz.f54.body.bind (trC Tryz.prog Tryz.f54.ntmps)=some (er AxA):=by kernel_rfl
theorem ACt:trR Tryz.prog Tryz.f54.results.toList=some Axy:=by kernel_rfl
def Auo:=As9 AvX.eq_1
def AyN:=As9 AvN.eq_1
def AyL:=As9 Av2.eq_1
def AyG:=As9 AvZ.eq_1
def AyJ:=As9 AvP.eq_1
def ABj:=As9 AxA.eq_1
theorem Auk {K:TV→Prop} {e:Env} {H:List Ob}:res Axy e H K=res [.tmp 2] e H K:=As8 rfl
def ABG:=AxF 61 Tryz.func54 ACp ACt rfl
def Awd:Atc := .seq (.ops [mv_ 14 0,mv_ 15 0,po_ 16 (.nilc (.t 15)),po_ 17 (.fieldA 1 1 (.t 16)),po_ 18 (.load false 1 (.t 17)),mv_ 19 18,⟨some 20,.p (.mov (.t 2)),some ⟨19,false⟩⟩,⟨some 21,.p (.bin 3 .lss (.t 20) (ci_ 0)),some ⟨19,false⟩⟩,po_ 22 (.pick (.t 19) (.c (.bool true)) (.t 21)),po_ 23 (.nilc (.t 14)),po_ 24 (.fieldA 1 1 (.t 23)),⟨none,.s (.store 1 (.t 24) (.t 22)),none⟩] [2,3])
 (.seq (.ops [mv_ 25 2,mv_ 26 3,mv_ 2 25,mv_ 3 26] [2,3])
 (.ret))
def Awa:Atc := .seq (.seq (.ops [mv_ 10 3,po_ 11 (.bin 3 .gtr (.t 10) (ci_ 0))] [0,2,3,11])
 (.cond (.t 11)
 (.ops [mv_ 12 2,po_ 13 (.bin 3 .sub (.t 12) (ci_ 1)),mv_ 2 13] [0,2,3])
 (.skip)))
 Awd
def Av8:Atc := .seq (.ops [mv_ 8 0,so_ 9 (.call 54 [.t 8]),mv_ 3 9] [0,2,3])
 Awa
def Awt:Atc := .seq (.ops [mv_ 6 0,so_ 7 (.call 40 [.t 6,.c (.string (str [44]))])] [0,2])
 Av8
def Awx:Atc := .seq (.ops [mv_ 4 0,so_ 5 (.call 54 [.t 4]),mv_ 2 5] [0,2])
 Awt
def AxR:Atc := .seq (.ops [po_ 2 (.mov (ci_ 0)),po_ 3 (.mov (ci_ 0))] [0])
 Awx
def AxT:List VR:=[.tmp 2,.tmp 3]
theorem AC9:Tryz.f41.body.bind (trC Tryz.prog Tryz.f41.ntmps)=some (er AxR):=by kernel_rfl
theorem ADz:trR Tryz.prog Tryz.f41.results.toList=some AxT:=by kernel_rfl
def AvD:=As9 Awd.eq_1
def AvE:=As9 Awa.eq_1
def Azi:=As9 Av8.eq_1
def AzA:=As9 Awt.eq_1
def Azk:=As9 Awx.eq_1
def ABX:=As9 AxR.eq_1
theorem Axe {K:TV→Prop} {e:Env} {H:List Ob}:res AxT e H K=res [.tmp 2,.tmp 3] e H K:=As8 rfl
def ACy:=AxF 27 Tryz.func41 AC9 ADz rfl
def Axg:Atc := .seq (.ops [mv_ 49 0,mv_ 50 0,po_ 51 (.nilc (.t 50)),po_ 52 (.fieldA 1 1 (.t 51)),po_ 53 (.load false 1 (.t 52)),mv_ 54 53,⟨some 55,.p (.mov (.t 6)),some ⟨54,false⟩⟩,⟨some 56,.p (.bin 3 .lss (.t 55) (ci_ 0)),some ⟨54,false⟩⟩,po_ 57 (.pick (.t 54) (.c (.bool true)) (.t 56)),mv_ 58 57,⟨some 59,.p (.mov (.t 7)),some ⟨58,false⟩⟩,⟨some 60,.p (.bin 9 .eql (.t 59) (.c (.string (str [])))),some ⟨58,false⟩⟩,po_ 61 (.pick (.t 58) (.c (.bool true)) (.t 60)),po_ 62 (.nilc (.t 49)),po_ 63 (.fieldA 1 1 (.t 62)),⟨none,.s (.store 1 (.t 63) (.t 61)),none⟩] [2,6,7])
 (.seq (.ops [mv_ 64 6,mv_ 65 7,⟨some 66,.p (.build [.val (.int .i64 ((0:Nat):Int)),.val (.string (str []))] [1,1] [⟨0,.t 64⟩,⟨1,.t 65⟩]),none⟩,⟨none,.s (.store 2 (.t 2) (.t 66)),none⟩] [2])
 (.ret))
def Axi:Atc := .seq (.ops [mv_ 45 0,mv_ 46 4,po_ 47 (.nilc (.t 45)),po_ 48 (.fieldA 0 0 (.t 47)),⟨none,.s (.store 1 (.t 48) (.t 46)),none⟩] [0,2,6,7])
 Axg
def AwW:Atc := .seq (.seq (.ops [mv_ 37 4,so_ 38 (.call 53 [.t 37,.c (.string (str [92,32,78,111,32,110,101,119,108,105,110,101,32,97,116,32,101,110,100,32,111,102,32,102,105,108,101,10]))]),mv_ 36 38,po_ 39 (.ext 0 (.t 36)),po_ 40 (.ext 1 (.t 36)),mv_ 8 39,mv_ 9 40] [0,2,3,4,6,7,8,9])
 (.seq (.ops [mv_ 41 9] [0,2,3,4,6,7,8,41])
 (.cond (.t 41)
 (.ops [mv_ 42 3,po_ 43 (.slS (.t 42) (some (ci_ 1)) none),mv_ 44 8,mv_ 7 43,mv_ 4 44] [0,2,4,6,7])
 (.skip))))
 Axi
def Axc:Atc := .seq (.ops [mv_ 33 3,po_ 34 (.slS (.t 33) (some (ci_ 1)) none),po_ 35 (.bin 9 .add (.t 34) (.c (.string (str [10])))),mv_ 7 35] [0,2,3,4,6,7])
 AwW
def Aw1:Atc := .seq (.draw 1 [po_ 29 (.slA 3 1 (.g 1) none none),mv_ 30 3,po_ 31 (.slS (.t 30) none (some (ci_ 1))),so_ 32 (.call 56 [.t 29,.t 31]),mv_ 6 32] [0,2,3,4,6])
 Axc
def AwZ:Atc := .seq (.seq (.ops [mv_ 19 5,po_ 20 (.un .not (.t 19)),mv_ 21 20,⟨some 22,.p (.mov (.t 3)),some ⟨21,false⟩⟩,⟨some 23,.p (.bin 9 .eql (.t 22) (.c (.string (str [])))),some ⟨21,false⟩⟩,po_ 24 (.pick (.t 21) (.c (.bool true)) (.t 23))] [0,2,3,4,24])
 (.cond (.t 24)
 (.seq (.ops [mv_ 25 0,po_ 26 (.nilc (.t 25)),po_ 27 (.fieldA 1 1 (.t 26)),⟨none,.s (.store 1 (.t 27) (.c (.bool true))),none⟩] [2])
  (.seq (.ops [po_ 28 (.build [.val (.int .i64 ((0:Nat):Int)),.val (.string (str []))] [1,1] []),⟨none,.s (.store 2 (.t 2) (.t 28)),none⟩] [2])
  (.ret)))
 (.skip)))
 Aw1
def Aw6:Atc := .seq (.ops [mv_ 11 0,po_ 12 (.nilc (.t 11)),po_ 13 (.fieldA 0 0 (.t 12)),po_ 14 (.load false 1 (.t 13)),so_ 15 (.call 55 [.t 14,.c (.string (str [10]))]),mv_ 10 15,po_ 16 (.ext 0 (.t 10)),po_ 17 (.ext 1 (.t 10)),po_ 18 (.ext 2 (.t 10)),mv_ 3 16,mv_ 4 17,mv_ 5 18] [0,2,3,4,5])
 AwZ
def Aya:Atc := .seq (.ops [so_ 2 (.alloc (.agg [.val (.int .i64 ((0:Nat):Int)),.val (.string (str []))]))] [0,2])
 Aw6
def Aye:List VR:=[.cell 2 true 2]
theorem AEA:Tryz.f42.body.bind (trC Tryz.prog Tryz.f42.ntmps)=some (er Aya):=by kernel_rfl
theorem AD0:trR Tryz.prog Tryz.f42.results.toList=some Aye:=by kernel_rfl
def AtT:=As9 Axg.eq_1
def AvG:=As9 Axi.eq_1
def Az0:=As9 AwW.eq_1
def AzX:=As9 Axc.eq_1
def AAl:=As9 Aw1.eq_1
def Au5:=As9 AwZ.eq_1
def AzS:=As9 Aw6.eq_1
def ACI:=As9 Aya.eq_1
theorem AtJ {K:TV→Prop} {e:Env} {H:List Ob}:res Aye e H K=res [.cell 2 true 2] e H K:=As8 rfl
def ADi:=AxF 67 Tryz.func42 AEA AD0 rfl
def Aw3:Atc := .seq (.ops [mv_ 56 8,mv_ 57 56,⟨some 58,.p (.fieldA 0 0 (.t 11)),some ⟨57,false⟩⟩,⟨some 59,.p (.load false 1 (.t 58)),some ⟨57,false⟩⟩,⟨some 60,.p (.bin 36 .neq (.t 59) (ci_ 0)),some ⟨57,false⟩⟩,po_ 61 (.pick (.t 57) (.c (.bool true)) (.t 60)),mv_ 8 61] [0,2,3,5,7,8,11])
 (.ops [po_ 62 (.fieldA 2 2 (.t 3)),po_ 63 (.load false 1 (.t 62)),po_ 64 (.load true 2 (.t 11)),⟨some 65,.s (.bslice 2 1 (.agg [.val (.int .i64 ((0:Nat):Int)),.val (.string (str []))]) [⟨0,.t 64⟩]),none⟩,so_ 66 (.app 2 24 47 (.t 63) (.t 65)),po_ 67 (.fieldA 2 2 (.t 3)),⟨none,.s (.store 1 (.t 67) (.t 66)),none⟩] [0,2,3,5,7,8])
def Avk:Atc := .seq (.block 1 (.seq (.ops [mv_ 54 0,so_ 55 (.call 42 [.t 54]),so_ 11 (.alloc (.agg [.val (.int .i64 ((0:Nat):Int)),.val (.string (str []))])),⟨none,.s (.store 2 (.t 11) (.t 55)),none⟩] [0,2,3,5,7,8,11])
 Aw3))
 (.ops [po_ 50 (.load true 3 (.t 3)),so_ 51 (.call 28 [.t 50]),mv_ 49 51,po_ 52 (.ext 0 (.t 49)),po_ 53 (.ext 1 (.t 49)),mv_ 9 52,mv_ 10 53] [0,2,3,5,7,8,9,10])
def Aw0:Atc := .seq (.seq (.ops [mv_ 34 0,po_ 35 (.nilc (.t 34)),po_ 36 (.fieldA 1 1 (.t 35)),po_ 37 (.load false 1 (.t 36)),po_ 38 (.un .not (.t 37)),mv_ 39 38,⟨some 40,.p (.mov (.t 9)),some ⟨39,true⟩⟩,⟨some 41,.p (.mov (.t 5)),some ⟨39,true⟩⟩,⟨some 42,.p (.bin 3 .lss (.t 40) (.t 41)),some ⟨39,true⟩⟩,⟨some 43,.p (.mov (.t 42)),some ⟨39,true⟩⟩,⟨some 44,.p (.mov (.t 10)),some ⟨43,false⟩⟩,⟨some 45,.p (.mov (.t 7)),some ⟨43,false⟩⟩,⟨some 46,.p (.bin 3 .lss (.t 44) (.t 45)),some ⟨43,false⟩⟩,⟨some 47,.p (.pick (.t 43) (.c (.bool true)) (.t 46)),some ⟨39,true⟩⟩,po_ 48 (.pick (.t 39) (.t 47) (.c (.bool false)))] [0,2,3,5,7,8,48])
 (.cond (.t 48)
 (.skip)
 (.exit 0)))
 Avk
def Aw2:Atc := .block 0 (.ownB 3 [(2,2)] 2 (.loop [0,2,3,5,7,8,9,10] Aw0))
def AwU:Atc := .seq (.ops [mv_ 73 0,mv_ 74 0,po_ 75 (.nilc (.t 74)),po_ 76 (.fieldA 1 1 (.t 75)),po_ 77 (.load false 1 (.t 76)),mv_ 78 77,⟨some 79,.p (.mov (.t 8)),some ⟨78,false⟩⟩,⟨some 80,.p (.un .not (.t 79)),some ⟨78,false⟩⟩,po_ 81 (.pick (.t 78) (.c (.bool true)) (.t 80)),mv_ 82 81,⟨some 83,.p (.mov (.t 12)),some ⟨82,false⟩⟩,⟨some 84,.p (.mov (.t 5)),some ⟨82,false⟩⟩,⟨some 85,.p (.bin 3 .neq (.t 83) (.t 84)),some ⟨82,false⟩⟩,po_ 86 (.pick (.t 82) (.c (.bool true)) (.t 85)),mv_ 87 86,⟨some 88,.p (.mov (.t 13)),some ⟨87,false⟩⟩,⟨some 89,.p (.mov (.t 7)),some ⟨87,false⟩⟩,⟨some 90,.p (.bin 3 .neq (.t 88) (.t 89)),some ⟨87,false⟩⟩,po_ 91 (.pick (.t 87) (.c (.bool true)) (.t 90)),po_ 92 (.nilc (.t 73)),po_ 93 (.fieldA 1 1 (.t 92)),⟨none,.s (.store 1 (.t 93) (.t 91)),none⟩] [2,3])
 (.seq (.ops [po_ 94 (.load true 3 (.t 3)),⟨none,.s (.store 3 (.t 2) (.t 94)),none⟩] [2])
 (.ret))
def AuH:Atc := .seq (.ops [po_ 69 (.load true 3 (.t 3)),so_ 70 (.call 28 [.t 69]),mv_ 68 70,po_ 71 (.ext 0 (.t 68)),po_ 72 (.ext 1 (.t 68)),mv_ 12 71,mv_ 13 72] [0,2,3,5,7,8,12,13])
 AwU
def AwT:Atc := .seq (.seq (.ops [po_ 9 (.mov (ci_ 0)),po_ 10 (.mov (ci_ 0))] [0,2,3,5,7,8,9,10])
 Aw2)
 AuH
def Axb:Atc := .seq (.ops [po_ 8 (.mov (.c (.bool false)))] [0,2,3,5,7,8])
 AwT
def Axf:Atc := .seq (.ops [mv_ 30 4,mv_ 31 6,po_ 32 (.fieldA 0 0 (.t 3)),⟨none,.s (.store 1 (.t 32) (.t 30)),none⟩,po_ 33 (.fieldA 1 1 (.t 3)),⟨none,.s (.store 1 (.t 33) (.t 31)),none⟩] [0,2,3,5,7])
 Axb
def Awc:Atc := .seq (.ops [mv_ 28 0,so_ 29 (.call 40 [.t 28,.c (.string (str [32,64,64,10]))])] [0,2,3,4,5,6,7])
 Axf
def Av6:Atc := .seq (.ops [mv_ 24 0,so_ 25 (.call 41 [.t 24]),mv_ 23 25,po_ 26 (.ext 0 (.t 23)),po_ 27 (.ext 1 (.t 23)),mv_ 6 26,mv_ 7 27] [0,2,3,4,5,6,7])
 Awc
def Aws:Atc := .seq (.ops [mv_ 21 0,so_ 22 (.call 40 [.t 21,.c (.string (str [32,43]))])] [0,2,3,4,5])
 Av6
def Awl:Atc := .seq (.ops [mv_ 17 0,so_ 18 (.call 41 [.t 17]),mv_ 16 18,po_ 19 (.ext 0 (.t 16)),po_ 20 (.ext 1 (.t 16)),mv_ 4 19,mv_ 5 20] [0,2,3,4,5])
 Aws
def Awr:Atc := .seq (.ops [mv_ 14 0,so_ 15 (.call 40 [.t 14,.c (.string (str [64,64,32,45]))])] [0,2,3])
 Awl
def Awo:Atc := .seq (.ops [so_ 3 (.alloc (.agg [.val (.int .i64 ((0:Nat):Int)),.val (.int .i64 ((0:Nat):Int)),.val (.slice none 0 0)]))] [0,2,3])
 Awr
def Ayu:Atc := .seq (.ops [so_ 2 (.alloc (.agg [.val (.int .i64 ((0:Nat):Int)),.val (.int .i64 ((0:Nat):Int)),.val (.slice none 0 0)]))] [0,2])
 Awo
def Avc:List VR:=[.cell 2 true 3]
theorem AEM:Tryz.f27.body.bind (trC Tryz.prog Tryz.f27.ntmps)=some (er Ayu):=by kernel_rfl
theorem AEz:trR Tryz.prog Tryz.f27.results.toList=some Avc:=by kernel_rfl
def Au3:=As9 Aw3.eq_1
def AAe:=As9 Avk.eq_1
def Auv:=As9 Aw0.eq_1
def AzW:=As9 Aw2.eq_1
def Aue:=As9 AwU.eq_1
def Az1:=As9 AuH.eq_1
def AzU:=As9 AwT.eq_1
def AzV:=As9 Axb.eq_1
def AAg:=As9 Axf.eq_1
def Azl:=As9 Awc.eq_1
def Azn:=As9 Av6.eq_1
def AzL:=As9 Aws.eq_1
def AzF:=As9 Awl.eq_1
def Ay8:=As9 Awr.eq_1
def AzP:=As9 Awo.eq_1
def ACz:=As9 Ayu.eq_1
theorem Aus {K:TV→Prop} {e:Env} {H:List Ob}:res Avc e H K=res [.cell 2 true 3] e H K:=As8 rfl
def ADf:=AxF 95 Tryz.func27 AEM AEz rfl
def AyZ:Atc := .seq (.seq (.ops [mv_ 7 5,mv_ 8 0,po_ 9 (.lenS (.t 8)),po_ 10 (.bin 3 .lss (.t 7) (.t 9)),mv_ 11 10,⟨some 12,.p (.mov (.t 0)),some ⟨11,true⟩⟩,⟨some 13,.p (.mov (.t 5)),some ⟨11,true⟩⟩,⟨some 14,.p (.idxS (.t 12) (.t 13)),some ⟨11,true⟩⟩,⟨some 15,.p (.bin 5 .geq (.t 14) (.c (.int .u8 ((48:Nat):Int)))),some ⟨11,true⟩⟩,po_ 16 (.pick (.t 11) (.t 15) (.c (.bool false))),mv_ 17 16,⟨some 18,.p (.mov (.t 0)),some ⟨17,true⟩⟩,⟨some 19,.p (.mov (.t 5)),some ⟨17,true⟩⟩,⟨some 20,.p (.idxS (.t 18) (.t 19)),some ⟨17,true⟩⟩,⟨some 21,.p (.bin 5 .leq (.t 20) (.c (.int .u8 ((57:Nat):Int)))),some ⟨17,true⟩⟩,po_ 22 (.pick (.t 17) (.t 21) (.c (.bool false))),mv_ 23 22,⟨some 24,.p (.mov (.t 5)),some ⟨23,true⟩⟩,⟨some 25,.p (.bin 3 .lss (.t 24) (ci_ 10)),some ⟨23,true⟩⟩,po_ 26 (.pick (.t 23) (.t 25) (.c (.bool false)))] [0,5,6,26])
 (.cond (.t 26)
 (.skip)
 (.exit 0)))
 (.block 1 (.seq (.ops [mv_ 27 6,po_ 28 (.bin 3 .mul (.t 27) (ci_ 10)),mv_ 29 0,mv_ 30 5,po_ 31 (.idxS (.t 29) (.t 30)),po_ 32 (.bin 5 .sub (.t 31) (.c (.int .u8 ((48:Nat):Int)))),po_ 33 (.conv .i64 (.t 32)),po_ 34 (.bin 3 .add (.t 28) (.t 33)),mv_ 6 34] [0,5,6])
 (.ops [mv_ 35 5,po_ 36 (.bin 3 .add (.t 35) (ci_ 1)),mv_ 5 36] [0,5,6])))
def AwG:Atc := .seq (.draw 4 [mv_ 37 6,mv_ 38 0,mv_ 39 5,po_ 40 (.slS (.t 38) (some (.t 39)) none),mv_ 41 5,po_ 42 (.bin 3 .gtr (.t 41) (ci_ 0)),mv_ 43 42,⟨some 44,.p (.mov (.t 5)),some ⟨43,true⟩⟩,⟨some 45,.p (.bin 3 .lss (.t 44) (ci_ 10)),some ⟨43,true⟩⟩,po_ 46 (.pick (.t 43) (.t 45) (.c (.bool false))),mv_ 47 46,⟨some 48,.p (.mov (.t 5)),some ⟨47,true⟩⟩,⟨some 49,.p (.bin 3 .eql (.t 48) (ci_ 1)),some ⟨47,true⟩⟩,⟨some 50,.p (.mov (.t 49)),some ⟨47,true⟩⟩,⟨some 51,.p (.mov (.t 0)),some ⟨50,false⟩⟩,⟨some 52,.p (.idxS (.t 51) (ci_ 0)),some ⟨50,false⟩⟩,⟨some 53,.p (.bin 5 .neq (.t 52) (.c (.int .u8 ((48:Nat):Int)))),some ⟨50,false⟩⟩,⟨some 54,.p (.pick (.t 50) (.c (.bool true)) (.t 53)),some ⟨47,true⟩⟩,po_ 55 (.pick (.t 47) (.t 54) (.c (.bool false))),mv_ 2 37,mv_ 3 40,mv_ 4 55] [2,3,4])
 (.ret)
def AyY:Atc := .seq (.block 0 (.loop [0,5,6] AyZ))
 AwG
def AzD:Atc := .seq (.ops [po_ 6 (.mov (ci_ 0))] [0,5,6])
 AyY
def Ay0:Atc := .seq (.ops [po_ 5 (.mov (ci_ 0))] [0,5])
 AzD
def AC3:Atc := .seq (.ops [po_ 2 (.mov (ci_ 0)),po_ 3 (.mov (.c (.string (str [])))),po_ 4 (.mov (.c (.bool false)))] [0])
 Ay0
def AyI:List VR:=[.tmp 2,.tmp 3,.tmp 4]
theorem AHP:Tryz.f48.body.bind (trC Tryz.prog Tryz.f48.ntmps)=some (er AC3):=by kernel_rfl
theorem AHN:trR Tryz.prog Tryz.f48.results.toList=some AyI:=by kernel_rfl
def Aul:=As9 AyZ.eq_1
def Aum:=As9 AwG.eq_1
def ADr:=As9 AyY.eq_1
def AC8:=As9 AzD.eq_1
def ADI:=As9 Ay0.eq_1
def AGx:=As9 AC3.eq_1
theorem AuF {K:TV→Prop} {e:Env} {H:List Ob}:res AyI e H K=res [.tmp 2,.tmp 3,.tmp 4] e H K:=As8 rfl
def AHX:=(aI_ (aI_ (aI_ @Aul @Aum) (aI_ @ADr @AC8)) (aI_ (aI_ @ADI @AGx) @AuF))
def AGX:=AxF 56 Tryz.func48 AHP AHN rfl
def ABJ:Atc := .seq (.seq (.ops [mv_ 6 0,po_ 7 (.lenS (.t 6)),mv_ 8 1,po_ 9 (.lenS (.t 8)),po_ 10 (.bin 3 .lss (.t 7) (.t 9)),mv_ 11 10,⟨some 12,.p (.mov (.t 0)),some ⟨11,false⟩⟩,⟨some 13,.p (.mov (.t 1)),some ⟨11,false⟩⟩,⟨some 14,.p (.lenS (.t 13)),some ⟨11,false⟩⟩,⟨some 15,.p (.slS (.t 12) none (some (.t 14))),some ⟨11,false⟩⟩,⟨some 16,.p (.mov (.t 1)),some ⟨11,false⟩⟩,⟨some 17,.p (.bin 9 .neq (.t 15) (.t 16)),some ⟨11,false⟩⟩,po_ 18 (.pick (.t 11) (.c (.bool true)) (.t 17))] [0,1,18])
 (.cond (.t 18)
 (.seq (.ops [mv_ 19 0,mv_ 4 19,po_ 5 (.mov (.c (.bool false)))] [4,5])
  (.ret))
 (.skip)))
 (.seq (.ops [mv_ 20 0,mv_ 21 1,po_ 22 (.lenS (.t 21)),po_ 23 (.slS (.t 20) (some (.t 22)) none),mv_ 4 23,po_ 5 (.mov (.c (.bool true)))] [4,5])
 (.ret))
def AGg:Atc := .seq (.ops [po_ 4 (.mov (.c (.string (str [])))),po_ 5 (.mov (.c (.bool false)))] [0,1])
 ABJ
def AF6:List VR:=[.tmp 4,.tmp 5]
theorem AKz:Tryz.f47.body.bind (trC Tryz.prog Tryz.f47.ntmps)=some (er AGg):=by kernel_rfl
theorem AJS:trR Tryz.prog Tryz.f47.results.toList=some AF6:=by kernel_rfl
def AFx:=As9 ABJ.eq_1
def AHV:=As9 AGg.eq_1
theorem AHS {K:TV→Prop} {e:Env} {H:List Ob}:res AF6 e H K=res [.tmp 4,.tmp 5] e H K:=As8 rfl
def ABu:=(aI_ (aI_ @AFx @AHV) @AHS)
def AJd:=AxF 24 Tryz.func47 AKz AJS rfl
def Axv:Atc := .seq (.sdraw 37 [po_ 83 (.load true 5 (.t 5)),mv_ 84 0,mv_ 85 6,mv_ 86 85,⟨some 87,.p (.mov (.t 8)),some ⟨86,true⟩⟩,po_ 88 (.pick (.t 86) (.t 87) (.c (.bool false))),mv_ 89 88,⟨some 90,.p (.mov (.t 9)),some ⟨89,true⟩⟩,po_ 91 (.pick (.t 89) (.t 90) (.c (.bool false))),mv_ 92 91,⟨some 93,.p (.mov (.t 11)),some ⟨92,true⟩⟩,po_ 94 (.pick (.t 92) (.t 93) (.c (.bool false))),mv_ 95 94,⟨some 96,.p (.mov (.t 12)),some ⟨95,true⟩⟩,po_ 97 (.pick (.t 95) (.t 96) (.c (.bool false))),mv_ 98 97,⟨some 99,.p (.mov (.t 14)),some ⟨98,true⟩⟩,po_ 100 (.pick (.t 98) (.t 99) (.c (.bool false))),mv_ 101 100,⟨some 102,.p (.mov (.t 15)),some ⟨101,true⟩⟩,po_ 103 (.pick (.t 101) (.t 102) (.c (.bool false))),mv_ 104 103,⟨some 105,.p (.mov (.t 17)),some ⟨104,true⟩⟩,po_ 106 (.pick (.t 104) (.t 105) (.c (.bool false))),mv_ 107 106,⟨some 108,.p (.mov (.t 18)),some ⟨107,true⟩⟩,po_ 109 (.pick (.t 107) (.t 108) (.c (.bool false))),mv_ 110 109,⟨some 111,.p (.fieldA 0 0 (.t 5)),some ⟨110,true⟩⟩,⟨some 112,.p (.load false 1 (.t 111)),some ⟨110,true⟩⟩,⟨some 113,.p (.bin 3 .geq (.t 112) (ci_ 0)),some ⟨110,true⟩⟩,po_ 114 (.pick (.t 110) (.t 113) (.c (.bool false))),mv_ 115 114,⟨some 116,.p (.fieldA 2 2 (.t 5)),some ⟨115,true⟩⟩,⟨some 117,.p (.load false 1 (.t 116)),some ⟨115,true⟩⟩,⟨some 118,.p (.bin 3 .geq (.t 117) (ci_ 0)),some ⟨115,true⟩⟩,po_ 119 (.pick (.t 115) (.t 118) (.c (.bool false))),⟨none,.s (.store 5 (.t 2) (.t 83)),none⟩,mv_ 3 84,mv_ 4 119] [2,3,4])
 (.ret)
def AAV:Atc := .seq (.seq (.ops [mv_ 78 16,po_ 79 (.bin 3 .gtr (.t 78) (ci_ 0))] [0,2,5,6,8,9,11,12,13,14,15,17,18,79])
 (.cond (.t 79)
 (.ops [mv_ 80 13,po_ 81 (.bin 3 .sub (.t 80) (ci_ 1)),po_ 82 (.fieldA 2 2 (.t 5)),⟨none,.s (.store 1 (.t 82) (.t 81)),none⟩] [0,2,5,6,8,9,11,12,14,15,17,18])
 (.skip)))
 Axv
def ABf:Atc := .seq (.seq (.ops [mv_ 73 10,po_ 74 (.bin 3 .gtr (.t 73) (ci_ 0))] [0,2,5,6,7,8,9,11,12,13,14,15,16,17,18,74])
 (.cond (.t 74)
 (.ops [mv_ 75 7,po_ 76 (.bin 3 .sub (.t 75) (ci_ 1)),po_ 77 (.fieldA 0 0 (.t 5)),⟨none,.s (.store 1 (.t 77) (.t 76)),none⟩] [0,2,5,6,8,9,11,12,13,14,15,16,17,18])
 (.skip)))
 AAV
def Axs:Atc := .seq (.ops [mv_ 68 7,mv_ 69 10,mv_ 70 13,mv_ 71 16,⟨some 72,.p (.build [.val (.int .i64 ((0:Nat):Int)),.val (.int .i64 ((0:Nat):Int)),.val (.int .i64 ((0:Nat):Int)),.val (.int .i64 ((0:Nat):Int)),.val (.slice none 0 0)] [1,1,1,1,1] [⟨0,.t 68⟩,⟨1,.t 69⟩,⟨2,.t 70⟩,⟨3,.t 71⟩]),none⟩,⟨none,.s (.store 5 (.t 5) (.t 72)),none⟩] [0,2,5,6,7,8,9,10,11,12,13,14,15,16,17,18])
 ABf
def AA5:Atc := .seq (.ops [mv_ 64 0,so_ 65 (.call 47 [.t 64,.c (.string (str [32,64,64,10]))]),mv_ 63 65,po_ 66 (.ext 0 (.t 63)),po_ 67 (.ext 1 (.t 63)),mv_ 0 66,mv_ 18 67] [0,2,5,6,7,8,9,10,11,12,13,14,15,16,17,18])
 Axs
def AAO:Atc := .seq (.ops [mv_ 58 0,so_ 59 (.call 48 [.t 58]),mv_ 57 59,po_ 60 (.ext 0 (.t 57)),po_ 61 (.ext 1 (.t 57)),po_ 62 (.ext 2 (.t 57)),mv_ 16 60,mv_ 0 61,mv_ 17 62] [0,2,5,6,7,8,9,10,11,12,13,14,15,16,17])
 AA5
def ABc:Atc := .seq (.ops [mv_ 53 0,so_ 54 (.call 47 [.t 53,.c (.string (str [44]))]),mv_ 52 54,po_ 55 (.ext 0 (.t 52)),po_ 56 (.ext 1 (.t 52)),mv_ 0 55,mv_ 15 56] [0,2,5,6,7,8,9,10,11,12,13,14,15])
 AAO
def AAz:Atc := .seq (.ops [mv_ 47 0,so_ 48 (.call 48 [.t 47]),mv_ 46 48,po_ 49 (.ext 0 (.t 46)),po_ 50 (.ext 1 (.t 46)),po_ 51 (.ext 2 (.t 46)),mv_ 13 49,mv_ 0 50,mv_ 14 51] [0,2,5,6,7,8,9,10,11,12,13,14])
 ABc
def ABe:Atc := .seq (.ops [mv_ 42 0,so_ 43 (.call 47 [.t 42,.c (.string (str [32,43]))]),mv_ 41 43,po_ 44 (.ext 0 (.t 41)),po_ 45 (.ext 1 (.t 41)),mv_ 0 44,mv_ 12 45] [0,2,5,6,7,8,9,10,11,12])
 AAz
def AyT:Atc := .seq (.ops [mv_ 36 0,so_ 37 (.call 48 [.t 36]),mv_ 35 37,po_ 38 (.ext 0 (.t 35)),po_ 39 (.ext 1 (.t 35)),po_ 40 (.ext 2 (.t 35)),mv_ 10 38,mv_ 0 39,mv_ 11 40] [0,2,5,6,7,8,9,10,11])
 ABe
def Azd:Atc := .seq (.ops [mv_ 31 0,so_ 32 (.call 47 [.t 31,.c (.string (str [44]))]),mv_ 30 32,po_ 33 (.ext 0 (.t 30)),po_ 34 (.ext 1 (.t 30)),mv_ 0 33,mv_ 9 34] [0,2,5,6,7,8,9])
 AyT
def AyW:Atc := .seq (.ops [mv_ 25 0,so_ 26 (.call 48 [.t 25]),mv_ 24 26,po_ 27 (.ext 0 (.t 24)),po_ 28 (.ext 1 (.t 24)),po_ 29 (.ext 2 (.t 24)),mv_ 7 27,mv_ 0 28,mv_ 8 29] [0,2,5,6,7,8])
 Azd
def AzC:Atc := .seq (.ops [mv_ 20 0,so_ 21 (.call 47 [.t 20,.c (.string (str [64,64,32,45]))]),mv_ 19 21,po_ 22 (.ext 0 (.t 19)),po_ 23 (.ext 1 (.t 19)),mv_ 0 22,mv_ 6 23] [0,2,5,6])
 AyW
def Azv:Atc := .seq (.ops [so_ 5 (.alloc (.agg [.val (.int .i64 ((0:Nat):Int)),.val (.int .i64 ((0:Nat):Int)),.val (.int .i64 ((0:Nat):Int)),.val (.int .i64 ((0:Nat):Int)),.val (.slice none 0 0)]))] [0,2,5])
 AzC
def AER:Atc := .seq (.ops [so_ 2 (.alloc (.agg [.val (.int .i64 ((0:Nat):Int)),.val (.int .i64 ((0:Nat):Int)),.val (.int .i64 ((0:Nat):Int)),.val (.int .i64 ((0:Nat):Int)),.val (.slice none 0 0)])),po_ 3 (.mov (.c (.string (str [])))),po_ 4 (.mov (.c (.bool false)))] [0,2])
 Azv
def AxD:List VR:=[.cell 2 true 5,.tmp 3,.tmp 4]
theorem AIH:Tryz.f33.body.bind (trC Tryz.prog Tryz.f33.ntmps)=some (er AER):=by kernel_rfl
theorem AI4:trR Tryz.prog Tryz.f33.results.toList=some AxD:=by kernel_rfl
def AvH:=As9 Axv.eq_1
def Avf:=As9 AAV.eq_1
def Avd:=As9 ABf.eq_1
def Avg:=As9 Axs.eq_1
def AEr:=As9 AA5.eq_1
def AD8:=As9 AAO.eq_1
def AEF:=As9 ABc.eq_1
def AED:=As9 AAz.eq_1
def AEm:=As9 ABe.eq_1
def ADv:=As9 AyT.eq_1
def ADC:=As9 Azd.eq_1
def ADF:=As9 AyW.eq_1
def ADu:=As9 AzC.eq_1
def ADO:=As9 Azv.eq_1
def AGZ:=As9 AER.eq_1
theorem AxU {K:TV→Prop} {e:Env} {H:List Ob}:res AxD e H K=res [.cell 2 true 5,.tmp 3,.tmp 4] e H K:=As8 rfl
def AHJ:=AxF 120 Tryz.func33 AIH AI4 rfl
def Aw9:Atc := .seq (.seq (.ops [mv_ 38 11,mv_ 39 1,po_ 40 (.lenS (.t 39)),po_ 41 (.bin 3 .lss (.t 38) (.t 40)),mv_ 42 41,⟨some 43,.p (.mov (.t 1)),some ⟨42,true⟩⟩,⟨some 44,.p (.mov (.t 11)),some ⟨42,true⟩⟩,⟨some 45,.p (.idxS (.t 43) (.t 44)),some ⟨42,true⟩⟩,⟨some 46,.p (.bin 5 .neq (.t 45) (.c (.int .u8 ((10:Nat):Int)))),some ⟨42,true⟩⟩,po_ 47 (.pick (.t 42) (.t 46) (.c (.bool false)))] [1,2,4,7,8,9,10,11,47])
 (.cond (.t 47)
 (.skip)
 (.exit 3)))
 (.block 4 (.ops [mv_ 48 11,po_ 49 (.bin 3 .add (.t 48) (ci_ 1)),mv_ 11 49] [1,2,4,7,8,9,10,11]))
def Axk:Atc := .seq (.ops [mv_ 74 12,mv_ 75 12,po_ 76 (.lenS (.t 75)),po_ 77 (.bin 3 .sub (.t 76) (ci_ 1)),po_ 78 (.slS (.t 74) none (some (.t 77))),mv_ 12 78] [2,4,7,8,9,10,12,13])
 (.ops [mv_ 79 13,mv_ 1 79] [1,2,4,7,8,9,10,12])
def Aw7:Atc := .seq (.seq (.ops [mv_ 93 10,po_ 94 (.bin 3 .neq (.t 93) (ci_ 2))] [1,2,4,7,8,9,10,94])
 (.cond (.t 94)
 (.ops [mv_ 95 7,po_ 96 (.bin 3 .add (.t 95) (ci_ 1)),mv_ 7 96] [1,2,4,7,8,9,10])
 (.skip)))
 (.seq (.seq (.ops [mv_ 97 10,po_ 98 (.bin 3 .neq (.t 97) (ci_ 1))] [1,2,4,7,8,9,10,98])
 (.cond (.t 98)
 (.ops [mv_ 99 8,po_ 100 (.bin 3 .add (.t 99) (ci_ 1)),mv_ 8 100] [1,2,4,7,8,9,10])
 (.skip)))
 (.ops [mv_ 101 9,mv_ 102 101,⟨some 103,.p (.mov (.t 10)),some ⟨102,false⟩⟩,⟨some 104,.p (.bin 3 .neq (.t 103) (ci_ 0)),some ⟨102,false⟩⟩,po_ 105 (.pick (.t 102) (.c (.bool true)) (.t 104)),mv_ 9 105] [1,2,4,7,8,9]))
def Axj:Atc := .seq (.ops [po_ 85 (.fieldA 4 4 (.t 2)),po_ 86 (.load false 1 (.t 85)),mv_ 87 10,mv_ 88 12,⟨some 89,.p (.build [.val (.int .i64 ((0:Nat):Int)),.val (.string (str []))] [1,1] [⟨0,.t 87⟩,⟨1,.t 88⟩]),none⟩,⟨some 90,.s (.bslice 2 1 (.agg [.val (.int .i64 ((0:Nat):Int)),.val (.string (str []))]) [⟨0,.t 89⟩]),none⟩,so_ 91 (.app 2 24 57 (.t 86) (.t 90)),po_ 92 (.fieldA 4 4 (.t 2)),⟨none,.s (.store 1 (.t 92) (.t 91)),none⟩] [1,2,4,7,8,9,10])
 Aw7
def Avm:Atc := .seq (.seq (.ops [mv_ 80 12,po_ 81 (.lenS (.t 80)),po_ 82 (.bin 3 .eql (.t 81) (ci_ 0))] [1,2,4,7,8,9,10,12,82])
 (.cond (.t 82)
 (.seq (.ops [po_ 83 (.load true 5 (.t 2)),mv_ 84 1,⟨none,.s (.store 5 (.t 4) (.t 83)),none⟩,mv_ 5 84,po_ 6 (.mov (.c (.bool false)))] [4,5,6])
  (.ret))
 (.skip)))
 Axj
def Axn:Atc := .seq (.seq (.ops [mv_ 73 14] [1,2,4,7,8,9,10,12,13,73])
 (.cond (.t 73)
 Axk
 (.skip)))
 Avm
def Aw4:Atc := .seq (.ops [mv_ 69 1,so_ 70 (.call 47 [.t 69,.c (.string (str [92,32,78,111,32,110,101,119,108,105,110,101,32,97,116,32,101,110,100,32,111,102,32,102,105,108,101,10]))]),mv_ 68 70,po_ 71 (.ext 0 (.t 68)),po_ 72 (.ext 1 (.t 68)),mv_ 13 71,mv_ 14 72] [1,2,4,7,8,9,10,12,13,14])
 Axn
def AwX:Atc := .seq (.ops [mv_ 64 1,mv_ 65 11,po_ 66 (.bin 3 .add (.t 65) (ci_ 1)),po_ 67 (.slS (.t 64) (some (.t 66)) none),mv_ 1 67] [1,2,4,7,8,9,10,12])
 Aw4
def AwR:Atc := .seq (.ops [mv_ 60 1,mv_ 61 11,po_ 62 (.bin 3 .add (.t 61) (ci_ 1)),po_ 63 (.slS (.t 60) (some (ci_ 1)) (some (.t 62))),mv_ 12 63] [1,2,4,7,8,9,10,11,12])
 AwX
def Awe:Atc := .seq (.seq (.ops [mv_ 50 10,po_ 51 (.bin 3 .lss (.t 50) (ci_ 0)),mv_ 52 51,⟨some 53,.p (.mov (.t 11)),some ⟨52,false⟩⟩,⟨some 54,.p (.mov (.t 1)),some ⟨52,false⟩⟩,⟨some 55,.p (.lenS (.t 54)),some ⟨52,false⟩⟩,⟨some 56,.p (.bin 3 .geq (.t 53) (.t 55)),some ⟨52,false⟩⟩,po_ 57 (.pick (.t 52) (.c (.bool true)) (.t 56))] [1,2,4,7,8,9,10,11,57])
 (.cond (.t 57)
 (.seq (.ops [po_ 58 (.load true 5 (.t 2)),mv_ 59 1,⟨none,.s (.store 5 (.t 4) (.t 58)),none⟩,mv_ 5 59,po_ 6 (.mov (.c (.bool false)))] [4,5,6])
  (.ret))
 (.skip)))
 AwR
def Awj:Atc := .seq (.block 3 (.loop [1,2,4,7,8,9,10,11] Aw9))
 Awe
def Au9:Atc := .seq (.ops [po_ 11 (.mov (ci_ 1))] [1,2,4,7,8,9,10,11])
 Awj
def Awn:Atc := .seq (.seq (.ops [mv_ 30 1,po_ 31 (.idxS (.t 30) (ci_ 0))] [1,2,4,7,8,9,10,31])
 (.block 2 (.seq (.ops [po_ 33 (.bin 5 .eql (.t 31) (.c (.int .u8 ((32:Nat):Int)))),mv_ 32 33] [1,2,4,7,8,9,10,31,32])
 (.cond (.t 32)
 (.ops [po_ 10 (.mov (ci_ 0))] [1,2,4,7,8,9,10])
 (.seq (.ops [po_ 35 (.bin 5 .eql (.t 31) (.c (.int .u8 ((45:Nat):Int)))),mv_ 34 35] [1,2,4,7,8,9,10,31,34])
  (.cond (.t 34)
  (.ops [po_ 10 (.mov (ci_ 1))] [1,2,4,7,8,9,10])
  (.seq (.ops [po_ 37 (.bin 5 .eql (.t 31) (.c (.int .u8 ((43:Nat):Int)))),mv_ 36 37] [1,2,4,7,8,9,10,36])
   (.cond (.t 36)
   (.ops [po_ 10 (.mov (ci_ 2))] [1,2,4,7,8,9,10])
   (.skip)))))))))
 Au9
def Av7:Atc := .seq (.ops [po_ 10 (.mov (.c (.int .i64 (-1))))] [1,2,4,7,8,9,10])
 Awn
def Awh:Atc := .block 1 (.seq (.seq (.ops [mv_ 25 1,po_ 26 (.lenS (.t 25)),po_ 27 (.bin 3 .lss (.t 26) (ci_ 2))] [1,2,4,7,8,9,27])
 (.cond (.t 27)
 (.seq (.ops [po_ 28 (.load true 5 (.t 2)),mv_ 29 1,⟨none,.s (.store 5 (.t 4) (.t 28)),none⟩,mv_ 5 29,po_ 6 (.mov (.c (.bool false)))] [4,5,6])
  (.ret))
 (.skip)))
 Av7)
def Av9:Atc := .seq (.seq (.ops [mv_ 15 7,po_ 16 (.fieldA 1 1 (.t 2)),po_ 17 (.load false 1 (.t 16)),po_ 18 (.bin 3 .lss (.t 15) (.t 17)),mv_ 19 18,⟨some 20,.p (.mov (.t 8)),some ⟨19,false⟩⟩,⟨some 21,.p (.fieldA 3 3 (.t 2)),some ⟨19,false⟩⟩,⟨some 22,.p (.load false 1 (.t 21)),some ⟨19,false⟩⟩,⟨some 23,.p (.bin 3 .lss (.t 20) (.t 22)),some ⟨19,false⟩⟩,po_ 24 (.pick (.t 19) (.c (.bool true)) (.t 23))] [1,2,4,7,8,9,24])
 (.cond (.t 24)
 (.skip)
 (.exit 0)))
 Awh
def Awf:Atc := .seq (.sdraw 15 [po_ 106 (.load true 5 (.t 2)),mv_ 107 1,mv_ 108 9,mv_ 109 108,⟨some 110,.p (.mov (.t 7)),some ⟨109,true⟩⟩,⟨some 111,.p (.fieldA 1 1 (.t 2)),some ⟨109,true⟩⟩,⟨some 112,.p (.load false 1 (.t 111)),some ⟨109,true⟩⟩,⟨some 113,.p (.bin 3 .eql (.t 110) (.t 112)),some ⟨109,true⟩⟩,po_ 114 (.pick (.t 109) (.t 113) (.c (.bool false))),mv_ 115 114,⟨some 116,.p (.mov (.t 8)),some ⟨115,true⟩⟩,⟨some 117,.p (.fieldA 3 3 (.t 2)),some ⟨115,true⟩⟩,⟨some 118,.p (.load false 1 (.t 117)),some ⟨115,true⟩⟩,⟨some 119,.p (.bin 3 .eql (.t 116) (.t 118)),some ⟨115,true⟩⟩,po_ 120 (.pick (.t 115) (.t 119) (.c (.bool false))),⟨none,.s (.store 5 (.t 4) (.t 106)),none⟩,mv_ 5 107,mv_ 6 120] [4,5,6])
 (.ret)
def Awv:Atc := .seq (.block 0 (.ownB 2 [(4,4)] 2 (.loop [1,2,4,7,8,9] Av9)))
 Awf
def Awy:Atc := .seq (.ops [po_ 9 (.mov (.c (.bool false)))] [1,2,4,7,8,9])
 Awv
def Awq:Atc := .seq (.ops [po_ 8 (.mov (ci_ 0))] [1,2,4,7,8])
 Awy
def Av4:Atc := .seq (.ops [po_ 7 (.mov (ci_ 0))] [1,2,4,7])
 Awq
def Ax8:Atc := .seq (.ops [so_ 2 (.box (.t 0)),so_ 4 (.alloc (.agg [.val (.int .i64 ((0:Nat):Int)),.val (.int .i64 ((0:Nat):Int)),.val (.int .i64 ((0:Nat):Int)),.val (.int .i64 ((0:Nat):Int)),.val (.slice none 0 0)])),po_ 5 (.mov (.c (.string (str [])))),po_ 6 (.mov (.c (.bool false)))] [1,2,4])
 Av4
def Ayr:List VR:=[.cell 4 true 5,.tmp 5,.tmp 6]
theorem AEG:Tryz.f34.body.bind (trC Tryz.prog Tryz.f34.ntmps)=some (er Ax8):=by kernel_rfl
theorem AEh:trR Tryz.prog Tryz.f34.results.toList=some Ayr:=by kernel_rfl
def Aug:=As9 Aw9.eq_1
def Az4:=As9 Axk.eq_1
def Au1:=As9 Aw7.eq_1
def Au6:=As9 Axj.eq_1
def Auw:=As9 Avm.eq_1
def AvV:=As9 Axn.eq_1
def AAh:=As9 Aw4.eq_1
def AAd:=As9 AwX.eq_1
def AzT:=As9 AwR.eq_1
def Aup:=As9 Awe.eq_1
def Ay6:=As9 Awj.eq_1
def AzK:=As9 Au9.eq_1
def Atz:=As9 Awn.eq_1
def AtA:=As9 Av7.eq_1
def Atq:=As9 Awh.eq_1
def Atj:=As9 Av9.eq_1
def Auq:=As9 Awf.eq_1
def Azm:=As9 Awv.eq_1
def Azo:=As9 Awy.eq_1
def Azt:=As9 Awq.eq_1
def AyU:=As9 Av4.eq_1
def ACC:=As9 Ax8.eq_1
theorem Atn {K:TV→Prop} {e:Env} {H:List Ob}:res Ayr e H K=res [.cell 4 true 5,.tmp 5,.tmp 6] e H K:=As8 rfl
def ADo:=AxF 121 Tryz.func34 AEG AEh rfl
def AA9:Atc := .seq (.ops [mv_ 53 7,po_ 54 (.fieldA 3 3 (.t 8)),po_ 55 (.load false 1 (.t 54)),po_ 56 (.bin 3 .add (.t 53) (.t 55)),po_ 57 (.fieldA 1 1 (.t 8)),po_ 58 (.load false 1 (.t 57)),po_ 59 (.bin 3 .sub (.t 56) (.t 58)),mv_ 7 59] [5,6,7,8,9])
 (.seq (.ops [mv_ 60 5,po_ 61 (.load true 5 (.t 8)),⟨some 62,.s (.bslice 5 1 (.agg [.val (.int .i64 ((0:Nat):Int)),.val (.int .i64 ((0:Nat):Int)),.val (.int .i64 ((0:Nat):Int)),.val (.int .i64 ((0:Nat):Int)),.val (.slice none 0 0)]) [⟨0,.t 61⟩]),none⟩,so_ 63 (.app 5 56 55 (.t 60) (.t 62)),mv_ 5 63] [5,6,7,9])
 (.ops [mv_ 64 9,mv_ 4 64] [4,5,6,7]))
def AAX:Atc := .seq (.ops [po_ 48 (.fieldA 0 0 (.t 8)),po_ 49 (.load false 1 (.t 48)),po_ 50 (.fieldA 1 1 (.t 8)),po_ 51 (.load false 1 (.t 50)),po_ 52 (.bin 3 .add (.t 49) (.t 51)),mv_ 6 52] [5,6,7,8,9])
 AA9
def AAP:Atc := .seq (.seq (.ops [mv_ 31 10,po_ 32 (.un .not (.t 31)),mv_ 33 32,⟨some 34,.p (.fieldA 0 0 (.t 8)),some ⟨33,false⟩⟩,⟨some 35,.p (.load false 1 (.t 34)),some ⟨33,false⟩⟩,⟨some 36,.p (.mov (.t 6)),some ⟨33,false⟩⟩,⟨some 37,.p (.bin 3 .lss (.t 35) (.t 36)),some ⟨33,false⟩⟩,po_ 38 (.pick (.t 33) (.c (.bool true)) (.t 37)),mv_ 39 38,⟨some 40,.p (.fieldA 2 2 (.t 8)),some ⟨39,false⟩⟩,⟨some 41,.p (.load false 1 (.t 40)),some ⟨39,false⟩⟩,⟨some 42,.p (.fieldA 0 0 (.t 8)),some ⟨39,false⟩⟩,⟨some 43,.p (.load false 1 (.t 42)),some ⟨39,false⟩⟩,⟨some 44,.p (.mov (.t 7)),some ⟨39,false⟩⟩,⟨some 45,.p (.bin 3 .add (.t 43) (.t 44)),some ⟨39,false⟩⟩,⟨some 46,.p (.bin 3 .neq (.t 41) (.t 45)),some ⟨39,false⟩⟩,po_ 47 (.pick (.t 39) (.c (.bool true)) (.t 46))] [5,7,8,9,47])
 (.cond (.t 47)
 (.seq (.ops [po_ 2 (.mov (.c (.slice none 0 0))),po_ 3 (.mov (.c (.bool false)))] [2,3])
  (.ret))
 (.skip)))
 AAX
def AA1:Atc := .seq (.ops [po_ 25 (.load true 5 (.t 8)),mv_ 26 9,so_ 27 (.call 34 [.t 25,.t 26]),mv_ 24 27,po_ 28 (.ext 0 (.t 24)),po_ 29 (.ext 1 (.t 24)),po_ 30 (.ext 2 (.t 24)),⟨none,.s (.store 5 (.t 8) (.t 28)),none⟩,mv_ 9 29,mv_ 10 30] [5,6,7,8,9,10])
 AAP
def AAn:Atc := .seq (.seq (.ops [mv_ 22 10,po_ 23 (.un .not (.t 22))] [5,6,7,8,9,23])
 (.cond (.t 23)
 (.seq (.ops [po_ 2 (.mov (.c (.slice none 0 0))),po_ 3 (.mov (.c (.bool false)))] [2,3])
  (.ret))
 (.skip)))
 AA1
def ABa:Atc := .block 1 (.seq (.ops [mv_ 17 4,so_ 18 (.call 33 [.t 17]),mv_ 16 18,po_ 19 (.ext 0 (.t 16)),po_ 20 (.ext 1 (.t 16)),po_ 21 (.ext 2 (.t 16)),so_ 8 (.alloc (.agg [.val (.int .i64 ((0:Nat):Int)),.val (.int .i64 ((0:Nat):Int)),.val (.int .i64 ((0:Nat):Int)),.val (.int .i64 ((0:Nat):Int)),.val (.slice none 0 0)])),⟨none,.s (.store 5 (.t 8) (.t 19)),none⟩,mv_ 9 20,mv_ 10 21] [5,6,7,8,9,10])
 AAn)
def AAF:Atc := .seq (.seq (.ops [mv_ 13 4,po_ 14 (.lenS (.t 13)),po_ 15 (.bin 3 .gtr (.t 14) (ci_ 0))] [4,5,6,7,15])
 (.cond (.t 15)
 (.skip)
 (.exit 0)))
 ABa
def AAU:Atc := .seq (.ops [mv_ 65 5,mv_ 2 65,po_ 3 (.mov (.c (.bool true)))] [2,3])
 (.ret)
def AA7:Atc := .seq (.block 0 (.own 5 5 (.loop [4,5,6,7] AAF)))
 AAU
def AzB:Atc := .seq (.ops [po_ 7 (.mov (ci_ 0))] [4,5,6,7])
 AA7
def Azh:Atc := .seq (.ops [po_ 6 (.mov (ci_ 0))] [4,5,6])
 AzB
def Ay7:Atc := .seq (.ops [po_ 5 (.mov (.c (.slice none 0 0)))] [4,5])
 Azh
def AzJ:Atc := .seq (.ops [mv_ 11 0,po_ 12 (.b2s (.t 11)),mv_ 4 12] [4])
 Ay7
def AE5:Atc := .seq (.ops [po_ 2 (.mov (.c (.slice none 0 0))),po_ 3 (.mov (.c (.bool false)))] [0])
 AzJ
def AEC:List VR:=[.tmp 2,.tmp 3]
theorem AIQ:Tryz.f18.body.bind (trC Tryz.prog Tryz.f18.ntmps)=some (er AE5):=by kernel_rfl
theorem AJf:trR Tryz.prog Tryz.f18.results.toList=some AEC:=by kernel_rfl
def AEN:=As9 AA9.eq_1
def AE9:=As9 AAX.eq_1
def AD7:=As9 AAP.eq_1
def AEl:=As9 AA1.eq_1
def AEj:=As9 AAn.eq_1
def AEk:=As9 ABa.eq_1
def AEg:=As9 AAF.eq_1
def ADS:=As9 AAU.eq_1
def AEE:=As9 AA7.eq_1
def ADc:=As9 AzB.eq_1
def ADN:=As9 Azh.eq_1
def ADG:=As9 Ay7.eq_1
def AC7:=As9 AzJ.eq_1
def AHj:=As9 AE5.eq_1
theorem AHq {K:TV→Prop} {e:Env} {H:List Ob}:res AEC e H K=res [.tmp 2,.tmp 3] e H K:=As8 rfl
def Aut:=(aI_ (aI_ (aI_ (aI_ @AEN @AE9) (aI_ @AD7 @AEl)) (aI_ (aI_ @AEj @AEk) (aI_ @AEg @ADS))) (aI_ (aI_ (aI_ @AEE @ADc) (aI_ @ADN @ADG)) (aI_ (aI_ @AC7 @AHj) @AHq)))
def AHB:=AxF 66 Tryz.func18 AIQ AJf rfl
def AAM:Atc := .seq (.seq (.draw 9 [mv_ 75 10,mv_ 76 8,po_ 77 (.lenV (.t 76)),po_ 78 (.bin 3 .geq (.t 75) (.t 77)),mv_ 79 78,⟨some 80,.p (.mov (.t 8)),some ⟨79,false⟩⟩,⟨some 81,.p (.mov (.t 10)),some ⟨79,false⟩⟩,⟨some 82,.p (.idxA 1 (.t 80) (.t 81)),some ⟨79,false⟩⟩,⟨some 83,.p (.load false 1 (.t 82)),some ⟨79,false⟩⟩,⟨some 84,.p (.fieldA 1 1 (.t 13)),some ⟨79,false⟩⟩,⟨some 85,.p (.load false 1 (.t 84)),some ⟨79,false⟩⟩,⟨some 86,.p (.bin 9 .neq (.t 83) (.t 85)),some ⟨79,false⟩⟩,po_ 87 (.pick (.t 79) (.c (.bool true)) (.t 86))] [6,8,9,10,11,12,13,87])
 (.cond (.t 87)
 (.seq (.ops [po_ 4 (.mov (.c (.slice none 0 0))),po_ 5 (.mov (ci_ 91))] [4,5])
  (.ret))
 (.skip)))
 (.ops [mv_ 88 10,po_ 89 (.bin 3 .add (.t 88) (ci_ 1)),mv_ 10 89] [6,8,9,10,11,12,13])
def AA6:Atc := .cond (.t 74)
 AAM
 (.skip)
def AAY:Atc := .seq (.seq (.ops [po_ 72 (.fieldA 0 0 (.t 13)),po_ 73 (.load false 1 (.t 72)),po_ 74 (.bin 3 .neq (.t 73) (ci_ 2))] [6,8,9,10,11,12,13,74])
 AA6)
 (.seq (.ops [po_ 90 (.fieldA 0 0 (.t 13)),po_ 91 (.load false 1 (.t 90)),po_ 92 (.bin 3 .neq (.t 91) (ci_ 1))] [6,8,9,10,11,12,13,92])
 (.cond (.t 92)
 (.ops [mv_ 93 9,po_ 94 (.fieldA 1 1 (.t 13)),po_ 95 (.load false 1 (.t 94)),⟨some 96,.s (.bslice 1 1 (.val (.string (str []))) [⟨0,.t 95⟩]),none⟩,so_ 97 (.app 1 16 9 (.t 93) (.t 96)),mv_ 9 97] [6,8,9,10,11,12])
 (.skip)))
def AAW:Atc := .seq (.block 3 (.seq (.ops [mv_ 64 6,mv_ 65 11,po_ 66 (.idxA 5 (.t 64) (.t 65)),po_ 67 (.fieldA 4 4 (.t 66)),po_ 68 (.load false 1 (.t 67)),mv_ 69 12,po_ 70 (.idxA 2 (.t 68) (.t 69)),po_ 71 (.load true 2 (.t 70)),so_ 13 (.alloc (.agg [.val (.int .i64 ((0:Nat):Int)),.val (.string (str []))])),⟨none,.s (.store 2 (.t 13) (.t 71)),none⟩] [6,8,9,10,11,12,13])
 AAY))
 (.ops [mv_ 62 12,po_ 63 (.bin 3 .add (.t 62) (ci_ 1)),mv_ 12 63] [6,8,9,10,11,12])
def AA0:Atc := .seq (.seq (.ops [mv_ 54 12,mv_ 55 6,mv_ 56 11,po_ 57 (.idxA 5 (.t 55) (.t 56)),po_ 58 (.fieldA 4 4 (.t 57)),po_ 59 (.load false 1 (.t 58)),po_ 60 (.lenV (.t 59)),po_ 61 (.bin 3 .lss (.t 54) (.t 60))] [6,8,9,10,11,12,61])
 (.cond (.t 61)
 (.skip)
 (.exit 2)))
 AAW
def AAL:Atc := .block 2 (.own 9 1 (.loop [6,8,9,10,11,12] AA0))
def Axq:Atc := .seq (.ops [po_ 12 (.mov (ci_ 0))] [6,8,9,10,11,12])
 AAL
def AAB:Atc := .seq (.ops [mv_ 49 6,mv_ 50 11,po_ 51 (.idxA 5 (.t 49) (.t 50)),po_ 52 (.fieldA 0 0 (.t 51)),po_ 53 (.load false 1 (.t 52)),mv_ 10 53] [6,8,9,10,11])
 Axq
def AAZ:Atc := .seq (.ops [mv_ 39 9,mv_ 40 8,mv_ 41 10,mv_ 42 6,mv_ 43 11,po_ 44 (.idxA 5 (.t 42) (.t 43)),po_ 45 (.fieldA 0 0 (.t 44)),po_ 46 (.load false 1 (.t 45)),po_ 47 (.slV 1 (.t 40) (some (.t 41)) (some (.t 46))),so_ 48 (.app 1 16 9 (.t 39) (.t 47)),mv_ 9 48] [6,8,9,11])
 AAB
def AzI:Atc := .ops [mv_ 29 11,po_ 30 (.bin 3 .add (.t 29) (ci_ 1)),mv_ 11 30] [6,8,9,10,11]
def Azc:Atc := .seq (.block 1 (.seq (.seq (.ops [mv_ 31 6,mv_ 32 11,po_ 33 (.idxA 5 (.t 31) (.t 32)),po_ 34 (.fieldA 0 0 (.t 33)),po_ 35 (.load false 1 (.t 34)),mv_ 36 8,po_ 37 (.lenV (.t 36)),po_ 38 (.bin 3 .gtr (.t 35) (.t 37))] [6,8,9,10,11,38])
 (.cond (.t 38)
 (.seq (.ops [po_ 4 (.mov (.c (.slice none 0 0))),po_ 5 (.mov (ci_ 91))] [4,5])
  (.ret))
 (.skip)))
 AAZ))
 AzI
def AyX:Atc := .seq (.seq (.ops [mv_ 25 11,mv_ 26 6,po_ 27 (.lenV (.t 26)),po_ 28 (.bin 3 .lss (.t 25) (.t 27))] [6,8,9,10,11,28])
 (.cond (.t 28)
 (.skip)
 (.exit 0)))
 Azc
def Ay1:Atc := .block 0 (.own 9 1 (.loop [6,8,9,10,11] AyX))
def Azs:Atc := .seq (.block 5 (.seq (.seq (.draw 15 [mv_ 109 9,mv_ 110 15,po_ 111 (.idxA 1 (.t 109) (.t 110)),po_ 112 (.load false 1 (.t 111)),mv_ 113 9,mv_ 114 15,po_ 115 (.idxA 1 (.t 113) (.t 114)),po_ 116 (.load false 1 (.t 115)),po_ 117 (.lenS (.t 116)),po_ 118 (.bin 3 .sub (.t 117) (ci_ 1)),po_ 119 (.idxS (.t 112) (.t 118)),po_ 120 (.bin 5 .neq (.t 119) (.c (.int .u8 ((10:Nat):Int)))),mv_ 121 120,⟨some 122,.p (.mov (.t 15)),some ⟨121,true⟩⟩,⟨some 123,.p (.bin 3 .add (.t 122) (ci_ 1)),some ⟨121,true⟩⟩,⟨some 124,.p (.mov (.t 9)),some ⟨121,true⟩⟩,⟨some 125,.p (.lenV (.t 124)),some ⟨121,true⟩⟩,⟨some 126,.p (.bin 3 .lss (.t 123) (.t 125)),some ⟨121,true⟩⟩,po_ 127 (.pick (.t 121) (.t 126) (.c (.bool false)))] [9,14,15,127])
 (.cond (.t 127)
 (.seq (.ops [po_ 4 (.mov (.c (.slice none 0 0))),po_ 5 (.mov (ci_ 91))] [4,5])
  (.ret))
 (.skip)))
 (.ops [mv_ 128 14,mv_ 129 9,mv_ 130 15,po_ 131 (.idxA 1 (.t 129) (.t 130)),po_ 132 (.load false 1 (.t 131)),po_ 133 (.bin 9 .add (.t 128) (.t 132)),mv_ 14 133] [9,14,15])))
 (.ops [mv_ 107 15,po_ 108 (.bin 3 .add (.t 107) (ci_ 1)),mv_ 15 108] [9,14,15])
def Azy:Atc := .seq (.seq (.ops [mv_ 103 15,mv_ 104 9,po_ 105 (.lenV (.t 104)),po_ 106 (.bin 3 .lss (.t 103) (.t 105))] [9,14,15,106])
 (.cond (.t 106)
 (.skip)
 (.exit 4)))
 Azs
def AzM:Atc := .block 4 (.loop [9,14,15] Azy)
def Azz:Atc := .seq (.ops [mv_ 134 14,so_ 135 (.s2b (.t 134)),mv_ 4 135,po_ 5 (.mov (ci_ 0))] [4,5])
 (.ret)
def AzO:Atc := .seq (.seq (.ops [po_ 15 (.mov (ci_ 0))] [9,14,15])
 AzM)
 Azz
def AwF:Atc := .seq (.ops [po_ 14 (.mov (.c (.string (str []))))] [9,14])
 AzO
def AzE:Atc := .seq (.ops [mv_ 98 9,mv_ 99 8,mv_ 100 10,po_ 101 (.slV 1 (.t 99) (some (.t 100)) none),so_ 102 (.app 1 16 9 (.t 98) (.t 101)),mv_ 9 102] [9])
 AwF
def Azg:Atc := .seq (.seq (.ops [po_ 11 (.mov (ci_ 0))] [6,8,9,10,11])
 Ay1)
 AzE
def Azx:Atc := .seq (.ops [po_ 10 (.mov (ci_ 0))] [6,8,9,10])
 Azg
def Aza:Atc := .seq (.ops [po_ 9 (.mov (.c (.slice none 0 0)))] [6,8,9])
 Azx
def AzH:Atc := .seq (.ops [mv_ 23 0,so_ 24 (.call 19 [.t 23]),mv_ 8 24] [6,8])
 Aza
def Azb:Atc := .seq (.seq (.ops [mv_ 21 7,po_ 22 (.un .not (.t 21))] [0,6,22])
 (.cond (.t 22)
 (.seq (.ops [po_ 4 (.mov (.c (.slice none 0 0))),po_ 5 (.mov (ci_ 90))] [4,5])
  (.ret))
 (.skip)))
 AzH
def AyP:Atc := .seq (.ops [mv_ 17 1,so_ 18 (.call 18 [.t 17]),mv_ 16 18,po_ 19 (.ext 0 (.t 16)),po_ 20 (.ext 1 (.t 16)),mv_ 6 19,mv_ 7 20] [0,6,7])
 Azb
def AEc:Atc := .seq (.ops [po_ 4 (.mov (.c (.slice none 0 0))),po_ 5 (.mov (ci_ 0))] [0,1])
 AyP
def Az6:List VR:=[.tmp 4,.tmp 5]
theorem AJt:Tryz.f8.body.bind (trC Tryz.prog Tryz.f8.ntmps)=some (er AEc):=by kernel_rfl
theorem AIE:trR Tryz.prog Tryz.f8.results.toList=some Az6:=by kernel_rfl
def ADX:=As9 AAM.eq_1
def AE4:=As9 AA6.eq_1
def AEL:=As9 AAY.eq_1
def AFc:=As9 AAW.eq_1
def AEq:=As9 AA0.eq_1
def AEX:=As9 AAL.eq_1
def ADU:=As9 Axq.eq_1
def Ayz:=As9 AAB.eq_1
def Ayo:=As9 AAZ.eq_1
def AxP:=As9 AzI.eq_1
def AxM:=As9 Azc.eq_1
def Avv:=As9 AyX.eq_1
def AC6:=As9 Ay1.eq_1
def AuX:=As9 Azs.eq_1
def AuZ:=As9 Azy.eq_1
def ADx:=As9 AzM.eq_1
def ADw:=As9 Azz.eq_1
def ADM:=As9 AzO.eq_1
def ADE:=As9 AwF.eq_1
def AxN:=As9 AzE.eq_1
def ADJ:=As9 Azg.eq_1
def ADs:=As9 Azx.eq_1
def ADp:=As9 Aza.eq_1
def ADh:=As9 AzH.eq_1
def ADH:=As9 Azb.eq_1
def ADk:=As9 AyP.eq_1
def AHt:=As9 AEc.eq_1
theorem AxZ {K:TV→Prop} {e:Env} {H:List Ob}:res Az6 e H K=res [.tmp 4,.tmp 5] e H K:=As8 rfl
def AtY:=(aI_ (aI_ (aI_ (aI_ (aI_ @ADX @AE4) (aI_ @AEL @AFc)) (aI_ (aI_ @AEq @AEX) (aI_ @ADU @Ayz))) (aI_ (aI_ (aI_ @Ayo @AxP) (aI_ @AxM @Avv)) (aI_ (aI_ @AC6 @AuX) (aI_ @AuZ @ADx)))) (aI_ (aI_ (aI_ (aI_ @ADw @ADM) (aI_ @ADE @AxN)) (aI_ (aI_ @ADJ @ADs) (aI_ @ADp @ADh))) (aI_ (aI_ @ADH @ADk) (aI_ @AHt @AxZ))))
def AHY:=AxF 136 Tryz.func8 AJt AIE rfl
def Av5:Atc := .seq (.ops [mv_ 47 9,mv_ 48 47,⟨some 49,.p (.mov (.t 10)),some ⟨48,true⟩⟩,po_ 50 (.pick (.t 48) (.t 49) (.c (.bool false))),mv_ 51 50,⟨some 52,.p (.mov (.t 13)),some ⟨51,true⟩⟩,po_ 53 (.pick (.t 51) (.t 52) (.c (.bool false))),mv_ 54 53,⟨some 55,.p (.mov (.t 8)),some ⟨54,true⟩⟩,⟨some 56,.s (.call 10 [.t 55]),some ⟨54,true⟩⟩,⟨some 57,.p (.mov (.t 12)),some ⟨54,true⟩⟩,⟨some 58,.p (.bin 3 .eql (.t 56) (.t 57)),some ⟨54,true⟩⟩,po_ 59 (.pick (.t 54) (.t 58) (.c (.bool false))),mv_ 4 59] [4])
 (.ret)
def Aww:Atc := .seq (.ops [mv_ 44 7,mv_ 45 11,so_ 46 (.call 9 [.t 44,.t 45]),mv_ 13 46] [8,9,10,12,13])
 Av5
def Awk:Atc := .seq (.ops [mv_ 39 0,mv_ 40 1,so_ 41 (.call 8 [.t 39,.t 40]),mv_ 38 41,po_ 42 (.ext 0 (.t 38)),po_ 43 (.ext 1 (.t 38)),mv_ 11 42,mv_ 12 43] [7,8,9,10,11,12])
 Aww
def Awp:Atc := .seq (.ops [mv_ 35 6,mv_ 36 1,so_ 37 (.call 7 [.t 35,.t 36]),mv_ 10 37] [0,1,7,8,9,10])
 Awk
def Awm:Atc := .seq (.ops [mv_ 32 5,mv_ 33 0,so_ 34 (.call 7 [.t 32,.t 33]),mv_ 9 34] [0,1,6,7,8,9])
 Awp
def Awu:Atc := .seq (.ops [mv_ 27 5,mv_ 28 6,so_ 29 (.call 6 [.t 27,.t 28]),mv_ 26 29,po_ 30 (.ext 0 (.t 26)),po_ 31 (.ext 1 (.t 26)),mv_ 7 30,mv_ 8 31] [0,1,5,6,7,8])
 Awm
def Awg:Atc := .seq (.ops [mv_ 24 1,so_ 25 (.call 5 [.t 24]),mv_ 6 25] [0,1,5,6])
 Awu
def Awi:Atc := .seq (.ops [mv_ 22 0,so_ 23 (.call 5 [.t 22]),mv_ 5 23] [0,1,5])
 Awg
def Awb:Atc := .seq (.seq (.ops [mv_ 14 0,po_ 15 (.lenV (.t 14)),po_ 16 (.bin 3 .gtr (.t 15) (ci_ 4000)),mv_ 17 16,⟨some 18,.p (.mov (.t 1)),some ⟨17,false⟩⟩,⟨some 19,.p (.lenV (.t 18)),some ⟨17,false⟩⟩,⟨some 20,.p (.bin 3 .gtr (.t 19) (ci_ 4000)),some ⟨17,false⟩⟩,po_ 21 (.pick (.t 17) (.c (.bool true)) (.t 20))] [0,1,21])
 (.cond (.t 21)
 (.seq (.ops [po_ 4 (.mov (.c (.bool true)))] [4])
  (.ret))
 (.skip)))
 Awi
def AxQ:Atc := .seq (.ops [po_ 4 (.mov (.c (.bool false)))] [0,1])
 Awb
def AxW:List VR:=[.tmp 4]
theorem ADA:Tryz.f3.body.bind (trC Tryz.prog Tryz.f3.ntmps)=some (er AxQ):=by kernel_rfl
theorem ADn:trR Tryz.prog Tryz.f3.results.toList=some AxW:=by kernel_rfl
def Ay5:=As9 Av5.eq_1
def Azf:=As9 Aww.eq_1
def Azj:=As9 Awk.eq_1
def AzG:=As9 Awp.eq_1
def Azp:=As9 Awm.eq_1
def Azq:=As9 Awu.eq_1
def AyQ:=As9 Awg.eq_1
def Azr:=As9 Awi.eq_1
def Ay3:=As9 Awb.eq_1
def ACb:=As9 AxQ.eq_1
theorem ABY {K:TV→Prop} {e:Env} {H:List Ob}:res AxW e H K=res [.tmp 4] e H K:=As8 rfl
def Atk:=(aI_ (aI_ (aI_ (aI_ @Ay5 @Azf) (aI_ @Azj @AzG)) (aI_ (aI_ @Azp @Azq) (aI_ @AyQ @Azr))) (aI_ (aI_ @Ay3 @ACb) @ABY))
def ACv:=AxF 60 Tryz.func3 ADA ADn rfl
def AuR:Atc := .seq (.ops [po_ 9 (.bin 3 .lss (.t 8) (.t 7))] [0,1,7,8,9])
 (.seq (.cond (.t 9)
 (.skip)
 (.exit 0))
 (.seq (.block 1 (.seq (.ops [mv_ 10 8,mv_ 5 10] [0,1,5,7,8])
 (.seq (.ops [mv_ 11 1,mv_ 12 0,mv_ 13 5,po_ 14 (.idxA 1 (.t 12) (.t 13)),po_ 15 (.load false 1 (.t 14)),po_ 16 (.bin 9 .eql (.t 11) (.t 15))] [0,1,5,7,8,16])
 (.cond (.t 16)
 (.seq (.ops [mv_ 17 5,mv_ 4 17] [4])
  (.ret))
 (.skip)))))
 (.ops [po_ 18 (.bin 3 .add (.t 8) (ci_ 1)),mv_ 8 18] [0,1,7,8])))
def AuT:Atc := .block 0 (.loop [0,1,7,8] AuR)
def AuQ:Atc := .seq (.ops [po_ 4 (.mov (.c (.int .i64 (-1))))] [4])
 (.ret)
def AuV:Atc := .seq (.seq (.ops [mv_ 6 0,po_ 7 (.lenV (.t 6)),po_ 8 (.mov (ci_ 0))] [0,1,7,8])
 AuT)
 AuQ
def Ave:Atc := .seq (.ops [po_ 4 (.mov (ci_ 0))] [0,1])
 AuV
def Ava:List VR:=[.tmp 4]
theorem AxI:Tryz.f56.body.bind (trC Tryz.prog Tryz.f56.ntmps)=some (er Ave):=by kernel_rfl
theorem AxH:trR Tryz.prog Tryz.f56.results.toList=some Ava:=by kernel_rfl
def AvW:=As9 AuR.eq_1
def AvY:=As9 AuT.eq_1
def Av1:=As9 AuQ.eq_1
def AvL:=As9 AuV.eq_1
def AwS:=As9 Ave.eq_1
theorem AwP {K:TV→Prop} {e:Env} {H:List Ob}:res Ava e H K=res [.tmp 4] e H K:=As8 rfl
def Atr:=(aI_ (aI_ (aI_ @AvW @AvY) (aI_ @Av1 @AvL)) (aI_ @AwS @AwP))
def Axx:=AxF 19 Tryz.func56 AxI AxH rfl
end
section
variable [AtW]
set_option maxRecDepth 100000
def AwV:Atc := .seq (.block 1 (.seq (.ops [po_ 11 (.idxA 2 (.t 7) (.t 9)),po_ 12 (.load true 2 (.t 11)),so_ 5 (.alloc (.agg [.val (.int .i64 ((0:Nat):Int)),.val (.string (str []))])),⟨none,.s (.store 2 (.t 5) (.t 12)),none⟩] [2,3,5,7,8,9])
 (.seq (.seq (.ops [po_ 13 (.fieldA 0 0 (.t 5)),po_ 14 (.load false 1 (.t 13)),po_ 15 (.bin 36 .neq (.t 14) (ci_ 2))] [2,3,5,7,8,9,15])
 (.cond (.t 15)
 (.ops [mv_ 16 2,po_ 17 (.bin 3 .add (.t 16) (ci_ 1)),mv_ 2 17] [2,3,5,7,8,9])
 (.skip)))
 (.seq (.ops [po_ 18 (.fieldA 0 0 (.t 5)),po_ 19 (.load false 1 (.t 18)),po_ 20 (.bin 36 .neq (.t 19) (ci_ 1))] [2,3,7,8,9,20])
 (.cond (.t 20)
 (.ops [mv_ 21 3,po_ 22 (.bin 3 .add (.t 21) (ci_ 1)),mv_ 3 22] [2,3,7,8,9])
 (.skip))))))
 (.ops [po_ 23 (.bin 3 .add (.t 9) (ci_ 1)),mv_ 9 23] [2,3,7,8,9])
def Axd:Atc := .seq (.cond (.t 10)
 (.skip)
 (.exit 0))
 AwV
def Aw8:Atc := .seq (.ops [po_ 10 (.bin 3 .lss (.t 9) (.t 8))] [2,3,7,8,9,10])
 Axd
def AwY:Atc := .block 0 (.loop [2,3,7,8,9] Aw8)
def Axp:Atc := .seq (.ops [mv_ 24 2,mv_ 25 3,mv_ 2 24,mv_ 3 25] [2,3])
 (.ret)
def Axh:Atc := .seq (.seq (.ops [po_ 6 (.fieldA 2 2 (.t 1)),po_ 7 (.load false 1 (.t 6)),po_ 8 (.lenV (.t 7)),po_ 9 (.mov (ci_ 0))] [2,3,7,8,9])
 AwY)
 Axp
def Ayi:Atc := .seq (.ops [so_ 1 (.box (.t 0)),po_ 2 (.mov (ci_ 0)),po_ 3 (.mov (ci_ 0))] [1,2,3])
 Axh
def Ayl:List VR:=[.tmp 2,.tmp 3]
theorem AE8:Tryz.f28.body.bind (trC Tryz.prog Tryz.f28.ntmps)=some (er Ayi):=by kernel_rfl
theorem AEn:trR Tryz.prog Tryz.f28.results.toList=some Ayl:=by kernel_rfl
def Az8:=As9 AwV.eq_1
def AAk:=As9 Axd.eq_1
def Az2:=As9 Aw8.eq_1
def AzZ:=As9 AwY.eq_1
def Az5:=As9 Axp.eq_1
def Az3:=As9 Axh.eq_1
def ACB:=As9 Ayi.eq_1
theorem ACA {K:TV→Prop} {e:Env} {H:List Ob}:res Ayl e H K=res [.tmp 2,.tmp 3] e H K:=As8 rfl
def AuG:=(aI_ (aI_ (aI_ @Az8 @AAk) (aI_ @Az2 @AzZ)) (aI_ (aI_ @Az5 @Az3) (aI_ @ACB @ACA)))
def ADb:=AxF 26 Tryz.func28 AE8 AEn rfl
end
section
open Go.RowKit
variable [AtW]
set_option autoImplicit false
section
variable {t:TypeId} {a b:Nat} {k2:IntKind}
theorem AWn (h:b≤a) (h2:a<256):Axl t .sub (.int .u8 (a:Int)) (.int .u8 (b:Int))=some (.int .u8 ((a - b:Nat):Int)):=by
 rw [show Axl t .sub (.int .u8 (a:Int)) (.int .u8 (b:Int))=some (.int .u8 (IntKind.u8.wrap ((a:Int) - b))) from rfl,IntKind.wrap_u8]
 congr 2; omega
end
theorem AtF {l:List UInt8}:bl (str l)=l:=by simp [bl,str]
theorem AVJ {l m:List UInt8}:str l++str m=str (l++m):=by
 apply ByteArray.ext
 simp [str]
theorem AUp {t:TypeId} {l m:List UInt8} (h:l.length+m.length≤9223372036854775807):Axl t .add (.string (str l)) (.string (str m))=some (.string (str (l++m))):=by
 have e1:(str l).size=l.length:=by show l.toArray.size=_; simp
 have e2:(str m).size=m.length:=by show m.toArray.size=_; simp
 rw [←AVJ,Axl,binOp_string_add,Op.stringOp]
 simp only [e1,e2]
 rw [if_neg (by show ¬ ((l.length+m.length:Nat):Int) > 9223372036854775807; omega)]
 rfl
end
section
open Go.RowKit
section
variable [AtW] {P:Program} {PP:Value→List Ob→Prop} {e:Env} {H:List Ob} {r:List VO} {Ss:SsT}
end
theorem AGY {H T:List Ob} {j:Nat} {o:Ob} (h:j<H.length):(H.set j o++T)[j]?=some o:=by rw [List.getElem?_append_left (by simpa using h),List.getElem?_set_self h]
end
section
open Go.RowKit
variable [AtW]
def AwK (w s:List UInt8):List UInt8:=Lib.trimPrefix s w
theorem AvM (w s:List UInt8):(AwK w s).length≤s.length:=by
 unfold AwK Lib.trimPrefix
 split<;>simp
theorem ALW {s w:List UInt8} {β:Bool} {id v:Nat} {H:List Ob} (ho:H[id]?=some (.obj v (.agg [ts s,tb β]))) {K:TV→List Ob→Prop}
  (hK:K (.tup []) (H.set id (.obj v (.agg [ts (AwK w s),tb (β || !Lib.hasPrefix s w)])))):Ato Tryz.prog 40 [.op id v [],ts w] H K:=by
 refine ADd (by simp) ?_
 have hid:id<H.length:=(List.getElem?_eq_some_iff.1 ho).1
 have hcp:=AH7 s w
 unfold AwK at hK
 generalize Lib.trimPrefix s w=t at *
 generalize Lib.hasPrefix s w=b at *
 simp -dsimp (disch:=first | assumption | omega | (simp only [Atb];try omega)) only [↓Ate,Ata,Atf,Atd,eq_self,Nat.reduceEqDiff,↓reduceIte,Nat.reduceAdd,reduceCtorEq,↓ACx,ho]
 refine hcp.calls rfl fun x hx => ?_
 subst hx
 cases β<;>cases b
 all_goals
  simp -dsimp (disch:=first | assumption | omega | (simp only [Atb];try omega)) only [↓Ate,Ata,Atf,Atd,eq_self,Nat.reduceEqDiff,↓reduceIte,Nat.reduceAdd,reduceCtorEq,↓Az7,↓ACG,ho]
  simpa using hK
variable [Ati] [Atv] [Atx]
theorem AJ5 {s:List UInt8} (ha:s.all AtU=true):0≤ADl s∧ADl s≤9223372036854775807:=by
 unfold ADl
 have h45:∀ b∈s,b.toNat≠45:=fun b hb e=>by
  have:=List.all_eq_true.1 ha b hb
  unfold AtU at this
  simp at this
  omega
 split
 ·rename_i v h
  have hb:=Lib.atoiAll_bounds h
  refine ⟨?_,hb.2⟩
  unfold Lib.atoiAll at h
  split at h
  ·cases h
  ·rename_i c r
   have hc:=h45 c (by simp)
   simp only [hc,false_and,if_false] at h
   split at h
   ·cases h
   ·cases h
   ·split at h
    ·cases h
    ·cases h; omega
 ·omega
 ·unfold Lib.atoiSat
  rw [if_neg]
  ·omega
  ·intro h
   cases s with
   | nil=>simp at h
   | cons c r=>exact h45 c (by simp) (by simpa using h)
theorem ANG {Ss:List Nat} {e:Env} {H:List Ob}:ADP Ss e H H:=fun t ht id hg=>rfl
theorem ALR {s:List UInt8} (hs:s.length≤1000000) {β:Bool} {id v:Nat} {H:List Ob} (ho:H[id]?=some (.obj v (.agg [ts s,tb β]))) {K:TV→List Ob→Prop}
  (hK:∀ z:Int,(ABp (s.takeWhile AtU)→z=(Axz 0 (s.takeWhile AtU):Int))→0≤z→z≤9223372036854775807→K (i64 z) (H.set id (.obj v (.agg [ts (s.dropWhile AtU),tb (β || !decide (ABp (s.takeWhile AtU)))])))):Ato Tryz.prog 54 [.op id v []] H K:=by
 refine ABG (by simp) ?_
 have hid:id<H.length:=(List.getElem?_eq_some_iff.1 ho).1
 have hTL:=APY s hs
 have hall:=ATu s
 obtain ⟨d,r,rfl,hd,hr⟩:∃ d r,s=d++r∧s.takeWhile AtU=d∧s.dropWhile AtU=r:=⟨_,_,List.takeWhile_append_dropWhile.symm,rfl,rfl⟩
 rw [hd] at hK hall
 rw [hr] at hK hTL
 clear hd hr
 have hsl:(d++r).length=d.length+r.length:=List.length_append ..
 have htk:(d++r).take d.length=d:=List.take_left ..
 have hdp:(d++r).drop d.length=r:=List.drop_left ..
 have hb:=AJ5 hall
 simp -dsimp (disch:=first | assumption | omega | (simp only [Atb];try omega)) only [↓Ate,Ata,Atf,Atd,eq_self,Nat.reduceMod,↓reduceIte,reduceCtorEq,↓ABj,↓AyJ,ho]
 refine Ato.callsP (hTL.calls rfl fun x hx=>⟨?_,ANG⟩)
 subst hx
 simp -dsimp (disch:=first | assumption | omega | (simp only [Atb];try omega)) only [↓Ate,Ata,Atf,Atd,eq_self,Nat.reduceEqDiff,↓reduceIte,reduceCtorEq,↓AyG,↓AyL,ho,AtF,hsl,htk,hdp]
 have ho2:(H.set id (.obj v (.agg [ts r,tb β])))[id]?=some (.obj v (.agg [ts r,tb β])):=by rw [List.getElem?_set,if_pos rfl,if_pos hid]
 have hset:∀ x:Ob,(H.set id (.obj v (.agg [ts r,tb β]))).set id x=H.set id x:=fun x=>List.set_set ..
 have hK2:=hK (ADl d)
 clear hK
 generalize H.set id (.obj v (.agg [ts r,tb β]))=H1 at *
 simp -dsimp (disch:=first | assumption | omega | (simp only [Atb];try omega)) only [↓Ate,Ata,Atf,Atd,eq_self,Nat.reduceEqDiff,↓reduceIte,reduceCtorEq,↓AyN]
 refine (AWZ d (by omega)).calls rfl fun x hx => ?_
 subst hx
 by_cases h0:d=[]
 ·subst h0
  have e:AFH [] = .ifc 156 .any:=rfl
  have hn:¬ ABp []:=fun h=>h.1 rfl
  have hK3:=hK2 (fun h=>absurd h hn) hb.1 hb.2
  simp only [hn,decide_false,Bool.not_false,Bool.or_true] at hK3
  cases β<;>simp -dsimp (disch:=first | assumption | omega | (simp only [Atb];try omega)) only [↓Ate,Ata,Atf,Atd,eq_self,Nat.reduceEqDiff,↓reduceIte,Nat.reduceAdd,reduceCtorEq,e,ho2,hset,↓Auo,↓Auk]
  all_goals exact hK3
 by_cases h9:d.length≤9
 ·have ea:=ASl hall h0 (by omega)
  have e1:AFH d = .val .nilIface:=by unfold AFH; rw [ea]
  have e2:ADl d=(Axz 0 d:Int):=by unfold ADl; rw [ea]
  have hn9:¬ 9<d.length:=by omega
  have hv:=ATq h9 hall
  have hK3:=hK2 (fun _=>e2) hb.1 hb.2
  have hci:=APi hall h0 h9
  rw [e2] at hK3
  have hit:=A0i (Axz 0 d:Int) (by omega) (by omega)
  rw [Lib.itoa_nonneg] at hit
  cases β
  ·simp -dsimp (disch:=first | assumption | omega | (simp only [Atb];try omega)) only [↓Ate,Ata,Atf,Atd,eq_self,Nat.reduceEqDiff,↓reduceIte,Nat.reduceAdd,reduceCtorEq,e1,e2,hn9,ho2,↓Auo]
   refine hit.calls rfl fun x hx => ?_
   subst hx
   by_cases hc:ABp d
   ·have hc2:=hci.1 hc
    rw [hc2]
    simp only [hc,decide_true,Bool.not_true,Bool.or_false] at hK3
    simp -dsimp (disch:=first | assumption | omega | (simp only [Atb];try omega)) only [↓Ate,Ata,Atf,Atd,eq_self,Nat.reduceEqDiff,↓reduceIte,Nat.reduceAdd,reduceCtorEq,ho2,hset,↓Auk]
    exact hK3
   ·have hc2:¬ Lib.decDigits (Axz 0 d)=d:=fun h=>hc (hci.2 h)
    simp only [hc,decide_false,Bool.not_false,Bool.or_true] at hK3
    simp -dsimp (disch:=first | assumption | omega | (simp only [Atb];try omega)) only [↓Ate,Ata,Atf,Atd,eq_self,Nat.reduceEqDiff,↓reduceIte,Nat.reduceAdd,reduceCtorEq,hc2,ho2,hset,↓Auk]
    exact hK3
  ·simp only [Bool.true_or] at hK3
   simp -dsimp (disch:=first | assumption | omega | (simp only [Atb];try omega)) only [↓Ate,Ata,Atf,Atd,eq_self,Nat.reduceEqDiff,↓reduceIte,Nat.reduceAdd,reduceCtorEq,e1,e2,ho2,hset,↓Auo,↓Auk]
   exact hK3
 ·have hn:¬ ABp d:=fun h=>h9 h.2.1
  have hK3:=hK2 (fun h=>absurd h hn) hb.1 hb.2
  simp only [hn,decide_false,Bool.not_false,Bool.or_true] at hK3
  have hn9:9<d.length:=by omega
  unfold AFH
  cases ea:Lib.atoiAll d
  all_goals
   cases β<;>simp -dsimp (disch:=first | assumption | omega | (simp only [Atb];try omega)) only [↓Ate,Ata,Atf,Atd,eq_self,Nat.reduceEqDiff,↓reduceIte,Nat.reduceAdd,reduceCtorEq,hn9,ho2,hset,↓Auo,↓Auk]
   all_goals exact hK3
theorem gsE {H:List Ob} {id:Nat} {x:Ob} (h:id<H.length):(H.set id x)[id]?=some x:=by rw [List.getElem?_set,if_pos rfl,if_pos h]
theorem ATh (s:List UInt8):(s.dropWhile AtU).length≤s.length:=by
 have:=congrArg List.length (List.takeWhile_append_dropWhile (p:=AtU) (l:=s))
 rw [List.length_append] at this
 omega
theorem AIM {w s r:List UInt8} (h:Aur w s=some r):Lib.hasPrefix s w=true∧AwK w s=r:=by
 unfold Aur at h
 split at h
 ·rename_i hp
  cases h
  unfold AwK Lib.trimPrefix Lib.hasPrefix
  exact ⟨hp,by rw [if_pos hp]⟩
 ·cases h
theorem AJc {w s:List UInt8} (h:Aur w s=none):Lib.hasPrefix s w=false:=by
 unfold Aur at h
 split at h
 ·cases h
 ·rename_i hp; unfold Lib.hasPrefix; exact Bool.eq_false_iff.2 hp
theorem AOL {s:List UInt8} (hs:s.length≤1000000) {β:Bool} {id v:Nat} {H:List Ob} (ho:H[id]?=some (.obj v (.agg [ts s,tb β]))) {K:TV→List Ob→Prop}
  (hK:∀ (a n:Int) (r:List UInt8) (β':Bool),β'=(β || (AH5 s).isNone)→(∀ A N r0,AH5 s=some (A,N,r0)→a=(A:Int)∧n=(N:Int)∧r=r0) → -1≤a→a≤9223372036854775807→0≤n→n≤9223372036854775807→r.length≤s.length →
   K (.tup [i64 a,i64 n]) (H.set id (.obj v (.agg [ts r,tb β'])))):Ato Tryz.prog 41 [.op id v []] H K:=by
 refine ACy (by simp) ?_
 have hid:id<H.length:=(List.getElem?_eq_some_iff.1 ho).1
 have hidS:∀ x:Ob,id<(H.set id x).length:=fun x=>by rw [List.length_set]; exact hid
 simp -dsimp (disch:=first | assumption | omega | (simp only [Atb];try omega)) only [↓Ate,Ata,Atf,Atd,eq_self,↓reduceIte,reduceCtorEq,↓ABX,↓Azk]
 refine AvI (ALR hs ho fun z hz hz0 hz1 => ?_)
 have hd1:=ATh s
 have c1:ABp (s.takeWhile AtU)→AzQ s=some (Axz 0 (s.takeWhile AtU),s.dropWhile AtU):=fun h=>by unfold AzQ; rw [if_pos h]
 have c1n:¬ ABp (s.takeWhile AtU)→AH5 s=none:=fun h=>by unfold AH5 AzQ; rw [if_neg h]
 generalize s.dropWhile AtU=s1 at *
 generalize hβ1:(β || !decide (ABp (s.takeWhile AtU)))=β1
 simp -dsimp (disch:=first | assumption | omega | (simp only [Atb];try omega)) only [↓Ate,Ata,Atf,Atd,eq_self,↓reduceIte,reduceCtorEq,↓AzA]
 refine AvI (ALW (gsE hid) ?_)
 rw [List.set_set]
 have hd2:=AvM [44] s1
 have c2:∀ r,Aur [44] s1=some r→Lib.hasPrefix s1 [44]=true∧AwK [44] s1=r:=fun r=>AIM
 have c2n:Aur [44] s1=none→Lib.hasPrefix s1 [44]=false:=AJc
 generalize hβ2:(β1 || !Lib.hasPrefix s1 [44])=β2
 generalize hs2:AwK [44] s1=s2 at *
 simp -dsimp (disch:=first | assumption | omega | (simp only [Atb];try omega)) only [↓Ate,Ata,Atf,Atd,eq_self,Nat.reduceEqDiff,↓reduceIte,reduceCtorEq,↓Azi]
 refine AvI (ALR (by omega) (gsE hid) fun y hy hy0 hy1 => ?_)
 rw [List.set_set]
 have hd3:=ATh s2
 generalize hβ3:(β2 || !decide (ABp (s2.takeWhile AtU)))=β3
 have fin:∀ a:Int,a=(if 0<y then z - 1 else z)→K (.tup [i64 a,i64 y]) (H.set id (.obj v (.agg [ts (s2.dropWhile AtU),tb (β3 || decide (a<0))]))):=fun a ha=>by
  have key:(AH5 s=none→(β3 || decide (a<0))=true)∧(∀ A N r0,AH5 s=some (A,N,r0)→(β3 || decide (a<0))=β∧a=(A:Int)∧y=(N:Int)∧s2.dropWhile AtU=r0):=by
   by_cases k1:ABp (s.takeWhile AtU)
   case neg =>
    have e1:β3=true:=by rw [←hβ3,←hβ2,←hβ1]; simp [k1]
    exact ⟨fun _=>by rw [e1]; rfl,fun A N r0 h=>by rw [c1n k1] at h; cases h⟩
   have e1:β1=β:=by rw [←hβ1]; simp [k1]
   have f1:=c1 k1
   cases k2:Aur [44] s1 with
   | none =>
    have e2:β3=true:=by rw [←hβ3,←hβ2,c2n k2]; simp
    have e3:AH5 s=none:=by unfold AH5; rw [f1]; simp only; rw [k2]
    exact ⟨fun _=>by rw [e2]; rfl,fun A N r0 h=>by rw [e3] at h; cases h⟩
   | some r =>
    obtain ⟨p1,p2⟩:=c2 r k2
    have e2:β2=β:=by rw [←hβ2,p1,e1]; simp
    subst p2
    by_cases k3:ABp (s2.takeWhile AtU)
    case neg =>
     have e4:β3=true:=by rw [←hβ3]; simp [k3]
     have e3:AH5 s=none:=by unfold AH5; rw [f1]; simp only; rw [k2]; simp only; unfold AzQ; rw [if_neg k3]
     exact ⟨fun _=>by rw [e4]; rfl,fun A N r0 h=>by rw [e3] at h; cases h⟩
    have e4:β3=β:=by rw [←hβ3,e2]; simp [k3]
    have f3:AzQ s2=some (Axz 0 (s2.takeWhile AtU),s2.dropWhile AtU):=by unfold AzQ; rw [if_pos k3]
    have y1:=hy k3
    have eb:AH5 s=if 0<Axz 0 (s2.takeWhile AtU) then (if Axz 0 (s.takeWhile AtU)=0 then none else some (Axz 0 (s.takeWhile AtU) - 1,Axz 0 (s2.takeWhile AtU),s2.dropWhile AtU)) else some (Axz 0 (s.takeWhile AtU),Axz 0 (s2.takeWhile AtU),s2.dropWhile AtU):=by
     unfold AH5
     rw [f1]; simp only
     rw [k2]; simp only
     rw [f3]
    have zz:=hz k1
    rw [eb,e4]
    generalize Axz 0 (s2.takeWhile AtU)=u at *
    generalize Axz 0 (s.takeWhile AtU)=t at *
    by_cases hu:0<u
    ·rw [if_pos hu]
     rw [if_pos (by omega)] at ha
     by_cases ht:t=0
     ·rw [if_pos ht]
      have:a<0:=by omega
      exact ⟨fun _=>by simp [this],fun A N r0 h=>by cases h⟩
     ·rw [if_neg ht]
      have:¬ a<0:=by omega
      refine ⟨fun h=>(by cases h),fun A N r0 h => ?_⟩
      cases h
      exact ⟨by simp [this],by omega,y1,rfl⟩
    ·rw [if_neg hu]
     rw [if_neg (by omega)] at ha
     have:¬ a<0:=by omega
     refine ⟨fun h=>(by cases h),fun A N r0 h => ?_⟩
     cases h
     exact ⟨by simp [this],by omega,y1,rfl⟩
  refine hK a y _ _ ?_ (fun A N r0 h=>(key.2 A N r0 h).2) ?_ ?_ hy0 hy1 (by omega)
  ·cases hb:AH5 s with
   | none=>rw [key.1 hb]; simp
   | some q=>obtain ⟨A,N,r0⟩:=q; rw [(key.2 A N r0 hb).1]; simp
  ·split at ha<;>omega
  ·split at ha<;>omega
 generalize s2.dropWhile AtU=s3 at *
 by_cases h0:0<y
 ·have f:=fin (z - 1) (by rw [if_pos h0])
  cases β3<;>simp -dsimp (disch:=first | assumption | omega | (simp only [Atb];try omega)) only [↓Ate,Ata,Atf,Atd,eq_self,Nat.reduceEqDiff,↓reduceIte,Nat.reduceAdd,reduceCtorEq,gsE hid,↓AvE,↓AvD,↓Axe]
  all_goals simpa using f
 ·have f:=fin z (by rw [if_neg h0])
  cases β3<;>simp -dsimp (disch:=first | assumption | omega | (simp only [Atb];try omega)) only [↓Ate,Ata,Atf,Atd,eq_self,Nat.reduceEqDiff,↓reduceIte,Nat.reduceAdd,reduceCtorEq,gsE hid,↓AvE,↓AvD,↓Axe]
  all_goals simpa using f
end
section
open Go.RowKit
variable [AtW]
def ez (p:EZ):TV := .agg [i64 p.1,ts p.2]
theorem ADZ {p:EZ}:ez p = .agg [i64 p.1,ts p.2]:=by unfold ez; rfl
theorem AFa (l:List EZ) (a b:Int) (hl:l.length≤1000000):Auy Tryz.prog 28 [.agg [i64 a,i64 b,.sl 2 (l.map ez)]] (fun x=>x = .tup [i64 (zN l:Int),i64 (zM l:Int)]):=by
 refine Ato.toPureV (ADb (by simp) ?_)
 simp -dsimp (disch:=first | assumption | omega) only [↓Ate,Ata,Atf,Atd,eq_self,Nat.reduceEqDiff,↓reduceIte,Nat.reduceAdd,↓AuG]
 refine Av3 (fun q e H=>∃ i:Nat,q=l.length - i∧i≤l.length∧e=[(2,i64 (zN (l.take i):Int)),(3,i64 (zM (l.take i):Int)),(7,.sl 2 (l.map ez)),(8,i64 (l.length:Int)),(9,i64 (i:Int))]∧H=[.obj 0 (.agg [i64 a,i64 b,.sl 2 (l.map ez)])]) l.length ?_ ?_
 ·exact ⟨0,by simp,by simp,by rw [List.take_zero]; rfl,rfl⟩
 ·rintro q e H ⟨i,rfl,hi,rfl,rfl⟩
  have b1:=AOx (l.take i)
  have b2:=APf (l.take i)
  have b3:(l.take i).length≤l.length:=by simp; omega
  by_cases h:i<l.length
  ·obtain ⟨x,hx⟩:∃ x,l[i]?=some x:=⟨_,List.getElem?_eq_getElem h⟩
   have hs:l.take (i+1)=l.take i++[x]:=by
    obtain ⟨_,rfl⟩:=List.getElem?_eq_some_iff.1 hx
    exact List.take_succ_eq_append_getElem h
   have c1:=AOq (l.take i) [x]
   have c2:=ATg (l.take i) [x]
   rw [←hs,ANw] at c1
   rw [←hs,ATt] at c2
   by_cases k2:x.1=2
   ·have k1:¬ x.1=1:=by omega
    rw [if_pos k2] at c1; rw [if_neg k1] at c2
    simp -dsimp (disch:=first | assumption | omega) only [↓Ate,Ata,Atf,Atd,eq_self,Nat.reduceEqDiff,↓reduceIte,Nat.reduceAdd,↓AuG,hx,ADZ,k2]
    exact Au8 (l.length - (i+1)) 1 (by omega) (by simp) rfl rfl ⟨i+1,rfl,by omega,by rw [c1,c2]; rfl,rfl⟩
   ·rw [if_neg k2] at c1
    by_cases k1:x.1=1
    ·rw [if_pos k1] at c2
     simp -dsimp (disch:=first | assumption | omega) only [↓Ate,Ata,Atf,Atd,eq_self,Nat.reduceEqDiff,↓reduceIte,Nat.reduceAdd,↓AuG,hx,ADZ,k1]
     exact Au8 (l.length - (i+1)) 1 (by omega) (by simp) rfl rfl ⟨i+1,rfl,by omega,by rw [c1,c2]; rfl,rfl⟩
    ·rw [if_neg k1] at c2
     simp -dsimp (disch:=first | assumption | omega) only [↓Ate,Ata,Atf,Atd,eq_self,Nat.reduceEqDiff,↓reduceIte,Nat.reduceAdd,↓AuG,hx,ADZ]
     exact Au8 (l.length - (i+1)) 1 (by omega) (by simp) rfl rfl ⟨i+1,rfl,by omega,by rw [c1,c2]; rfl,rfl⟩
  ·obtain rfl:i=l.length:=by omega
   rw [List.take_length]
   simp -dsimp (disch:=first | assumption | omega) only [↓Ate,Ata,Atf,Atd,eq_self,Nat.reduceEqDiff,↓reduceIte,↓AuG]
def AFN (c:UInt8):Int:=(Axt c).getD (-1)
variable [Atw]
theorem APo {e:Env}:(Opd.g 1).ev e = .fp (.arr 3 1 [.val (.string (str [32])),.val (.string (str [45])),.val (.string (str [43]))]):=by
 rw [A16,Atw.k]; rfl
theorem AVP (c:UInt8):Auy Tryz.prog 56 [.sl 1 [ts [32],ts [45],ts [43]],ts [c]] (fun x=>x=i64 (AFN c)):=by
 refine Ato.toPureV (Axx (by simp) ?_)
 simp -dsimp (disch:=first | assumption | omega) only [↓Ate,Ata,Atf,Atd,eq_self,Nat.reduceEqDiff,↓reduceIte,Nat.reduceAdd,reduceCtorEq,↓Atr]
 refine Av3 (fun q e H=>∃ i:Nat,q=3 - i∧i≤3∧(0<i→c≠32)∧(1<i→c≠45)∧(2<i→c≠43)∧e=[(0,.sl 1 [ts [32],ts [45],ts [43]]),(1,ts [c]),(7,i64 ((3:Nat):Int)),(8,i64 (i:Int))]∧H=[]) 3 ?_ ?_
 ·exact ⟨0,rfl,by omega,by omega,by omega,by omega,rfl,rfl⟩
 ·rintro q e H ⟨i,rfl,hi,h1,h2,h3,rfl,rfl⟩
  unfold AFN Axt
  have hi4:i=0∨i=1∨i=2∨i=3:=by omega
  rcases hi4 with rfl | rfl | rfl | rfl
  ·clear h1 h2 h3
   by_cases hc:c=32
   ·subst hc
    simp -dsimp (disch:=first | assumption | omega) only [↓Ate,Ata,Atf,Atd,eq_self,Nat.reduceLT,Nat.reduceEqDiff,↓reduceIte,reduceCtorEq,↓Atr]
    rfl
   ·have hc':¬ [c]=[(32:UInt8)]:=by simp [hc]
    simp -dsimp (disch:=first | assumption | omega) only [↓Ate,Ata,Atf,Atd,eq_self,Nat.reduceLT,Nat.reduceEqDiff,↓reduceIte,reduceCtorEq,↓Atr,hc']
    exact Au8 2 0 (by omega) (by simp) rfl rfl ⟨1,rfl,by omega,fun _=>hc,by omega,by omega,rfl,rfl⟩
  ·have e1:=h1 (by omega)
   by_cases hc:c=45
   ·subst hc
    simp -dsimp (disch:=first | assumption | omega) only [↓Ate,Ata,Atf,Atd,eq_self,Nat.reduceLT,Nat.reduceEqDiff,↓reduceIte,reduceCtorEq,↓Atr]
    rfl
   ·have hc':¬ [c]=[(45:UInt8)]:=by simp [hc]
    simp -dsimp (disch:=first | assumption | omega) only [↓Ate,Ata,Atf,Atd,eq_self,Nat.reduceLT,Nat.reduceEqDiff,Nat.reduceSub,↓reduceIte,Nat.reduceAdd,reduceCtorEq,↓Atr,hc']
    exact Au8 1 0 (by omega) (by simp) rfl rfl ⟨2,rfl,by omega,fun _=>e1,fun _=>hc,by omega,rfl,rfl⟩
  ·have e1:=h1 (by omega)
   have e2:=h2 (by omega)
   by_cases hc:c=43
   ·subst hc
    simp -dsimp (disch:=first | assumption | omega) only [↓Ate,Ata,Atf,Atd,eq_self,Nat.reduceLT,Nat.reduceEqDiff,↓reduceIte,reduceCtorEq,↓Atr]
    rfl
   ·have hc':¬ [c]=[(43:UInt8)]:=by simp [hc]
    simp -dsimp (disch:=first | assumption | omega) only [↓Ate,Ata,Atf,Atd,eq_self,Nat.reduceLT,Nat.reduceEqDiff,Nat.reduceSub,↓reduceIte,Nat.reduceAdd,reduceCtorEq,↓Atr,hc']
    exact Au8 0 0 (by omega) (by simp) rfl rfl ⟨3,rfl,by omega,fun _=>e1,fun _=>e2,fun _=>hc,rfl,rfl⟩
  ·have e1:=h1 (by omega)
   have e2:=h2 (by omega)
   have e3:=h3 (by omega)
   simp -dsimp (disch:=first | assumption | omega) only [↓Ate,Ata,Atf,Atd,eq_self,Nat.reduceLT,Nat.reduceEqDiff,↓reduceIte,reduceCtorEq,↓Atr]
theorem AG8 (c:UInt8):∀ l:List UInt8,Lib.index l [c]=Lib.indexByte l c
 | []=>rfl
 | b::l=>by
  rw [Lib.index,Lib.indexByte,AG8 c l]
  by_cases e:b=c
  ·subst e; simp
  ·have h1:([c].isPrefixOf (b::l))=false:=by simp [List.isPrefixOf,Ne.symm e]
   have h2:(b == c)=false:=by simpa using e
   rw [h1,h2]
theorem ASY (s:List UInt8):Lib.cut s [10]=(match ACd 10 s with | some i=>(s.take i,s.drop (i+1),true) | none=>(s,[],false)):=by
 unfold Lib.cut
 rw [AG8,AJk]
 cases ACd 10 s with
 | none=>simp
 | some i=>simp
variable [AvU]
theorem AYH {s:List UInt8} (hs:s.length≤1000000) {β:Bool} {id v:Nat} {H:List Ob} (ho:H[id]?=some (.obj v (.agg [ts s,tb β]))) {K:TV→List Ob→Prop}
  (hK:∀ (e:EZ) (r:List UInt8) (β':Bool),β'=(β || (lnF s).isNone)→(∀ e0 r0,lnF s=some (e0,r0)→e=e0∧r=r0) → -1≤e.1→e.1≤2→e.2.length≤s.length→r.length≤s.length →
   K (ez e) (H.set id (.obj v (.agg [ts r,tb β']))++[.obj 0 (ez e)])):Ato Tryz.prog 42 [.op id v []] H K:=by
 refine ADi (by simp) ?_
 have hid:id<H.length:=(List.getElem?_eq_some_iff.1 ho).1
 simp -dsimp (disch:=first | assumption | omega | (simp only [Atb];try omega)) only [↓Ate,Ata,Atf,Atd,eq_self,↓reduceIte,reduceCtorEq,↓ACI,↓AzS,ho]
 refine (AZo s [10] hs).calls rfl fun x hx => ?_
 subst hx
 rw [ASY]
 cases hc:ACd 10 s with
 | none =>
  have el:lnF s=none:=by unfold lnF; rw [hc]
  have f:=hK (0,[]) s true (by rw [el]; simp) (fun e0 r0 h=>by rw [el] at h; cases h) (by simp) (by simp) (by simp) (Nat.le_refl _)
  simp only
  simp -dsimp (disch:=first | assumption | omega | (simp only [Atb];try omega)) only [↓Ate,Ata,Atf,Atd,eq_self,Nat.reduceEqDiff,↓reduceIte,Nat.reduceAdd,reduceCtorEq,↓Au5,ho,↓AtJ]
  exact f
 | some i =>
  obtain ⟨hi,_,_⟩:=AFO hc
  simp only
  cases ht:s.take i with
  | nil =>
   have el:lnF s=none:=by unfold lnF; rw [hc]; simp only; rw [ht]
   have f:=hK (0,[]) s true (by rw [el]; simp) (fun e0 r0 h=>by rw [el] at h; cases h) (by simp) (by simp) (by simp) (Nat.le_refl _)
   simp -dsimp (disch:=first | assumption | omega | (simp only [Atb];try omega)) only [↓Ate,Ata,Atf,Atd,eq_self,Nat.reduceEqDiff,↓reduceIte,Nat.reduceAdd,reduceCtorEq,↓Au5,ho,↓AtJ]
   exact f
  | cons c t =>
   have htl:t.length+1=i:=by
    have:=congrArg List.length ht
    rw [List.length_take,List.length_cons] at this
    omega
   have hne:¬ (c::t=[]):=by simp
   have hln:=ANR t (s.drop (i+1))
   have hdl:(s.drop (i+1)).length=s.length - (i+1):=by simp
   have el:lnF s=match Axt c with
    | none=>none
    | some k=>if (lnE t (s.drop (i+1))).1=[] then none else some ((k,(lnE t (s.drop (i+1))).1),(lnE t (s.drop (i+1))).2):=by unfold lnF; rw [hc]; simp only; rw [ht]; rfl
   have hsig:=AVP c
   have hkz : -1≤AFN c∧AFN c≤2:=by
    unfold AFN Axt
    split
    ·simp
    split
    ·simp
    split
    ·simp
    ·simp
   have f:=fun β' h1 h2=>hK (AFN c,(lnE t (s.drop (i+1))).1) (lnE t (s.drop (i+1))).2 β' h1 h2 hkz.1 hkz.2 (by simp only; omega) (by omega)
   rw [el] at f
   have g:∀ b:Bool,b=(decide (AFN c<0) || decide ((lnE t (s.drop (i+1))).1=[]))→K (ez (AFN c,(lnE t (s.drop (i+1))).1)) (H.set id (.obj v (.agg [ts (lnE t (s.drop (i+1))).2,tb (β || b)]))++[.obj 0 (ez (AFN c,(lnE t (s.drop (i+1))).1))]):=fun b hb=>by
    refine f _ ?_ ?_
    ·rw [hb]
     unfold AFN
     cases hkf:Axt c with
     | none=>simp
     | some k =>
      have hk0:¬ k<0:=by unfold AFN at hkz; rw [hkf] at hkz; unfold Axt at hkf; split at hkf; (· cases hkf; omega); split at hkf; (· cases hkf; omega); split at hkf; (· cases hkf; omega); cases hkf
      by_cases hn:(lnE t (s.drop (i+1))).1=[]
      ·simp [hn]
      ·simp [hn,hk0]
    ·intro e0 r0 h
     cases hkf:Axt c with
     | none=>rw [hkf] at h; cases h
     | some k =>
      rw [hkf] at h
      simp only at h
      split at h
      ·cases h
      ·cases h
       unfold AFN
       rw [hkf]
       exact ⟨rfl,rfl⟩
   clear f hK el
   have hcp:=AH7 (s.drop (i+1)) noE
   unfold lnE at g
   unfold Lib.trimPrefix Lib.hasPrefix at hcp
   generalize s.drop (i+1)=q at *
   generalize AFN c=k at *
   have htk1:(c::t).take 1=[c]:=rfl
   have hdp1:(c::t).drop 1=t:=rfl
   have hl1:1≤(c::t).length:=by simp
   simp -dsimp (disch:=first | assumption | omega | (simp only [Atb];try omega)) only [↓Ate,Ata,Atf,Atd,eq_self,Nat.reduceEqDiff,↓reduceIte,reduceCtorEq,Nat.reduceLeDiff,hne,↓Au5,↓AAl,↓APo,AtF,htk1]
   refine hsig.calls rfl fun x hx => ?_
   subst hx
   simp -dsimp (disch:=first | assumption | omega | (simp only [Atb];try omega)) only [↓Ate,Ata,Atf,Atd,eq_self,Nat.reduceEqDiff,↓reduceIte,reduceCtorEq,Nat.reduceLeDiff,AtF,hdp1,↓AzX,↓Az0,AUp]
   refine hcp.calls rfl fun x hx => ?_
   subst hx
   by_cases hp:noE.isPrefixOf q=true
   ·rw [if_pos hp] at g
    simp only at g
    rw [if_pos hp,hp]
    simp -dsimp (disch:=first | assumption | omega | (simp only [Atb];try omega)) only [↓Ate,Ata,Atf,Atd,eq_self,Nat.reduceEqDiff,↓reduceIte,reduceCtorEq,Nat.reduceLeDiff,hdp1,AtF,ho,↓AvG]
    have g2:=g _ rfl
    cases β
    ·by_cases hk0:k<0
     ·simp only [hk0,decide_true,Bool.true_or,Bool.or_true] at g2
      simp -dsimp (disch:=first | assumption | omega | (simp only [Atb];try omega)) only [↓Ate,Ata,Atf,Atd,eq_self,Nat.reduceEqDiff,↓reduceIte,Nat.reduceAdd,reduceCtorEq,↓AtT,↓AtJ]
      exact g2
     ·by_cases ht0:t=[]
      ·subst ht0
       simp only [hk0,decide_false,decide_true,Bool.false_or] at g2
       simp -dsimp (disch:=first | assumption | omega | (simp only [Atb];try omega)) only [↓Ate,Ata,Atf,Atd,eq_self,Nat.reduceEqDiff,↓reduceIte,Nat.reduceAdd,reduceCtorEq,↓AtT,↓AtJ]
       exact g2
      ·simp only [hk0,ht0,decide_false,Bool.false_or] at g2
       simp -dsimp (disch:=first | assumption | omega | (simp only [Atb];try omega)) only [↓Ate,Ata,Atf,Atd,eq_self,Nat.reduceEqDiff,↓reduceIte,Nat.reduceAdd,reduceCtorEq,ht0,↓AtT,↓AtJ]
       exact g2
    ·simp only [Bool.true_or] at g2
     simp -dsimp (disch:=first | assumption | omega | (simp only [Atb];try omega)) only [↓Ate,Ata,Atf,Atd,eq_self,Nat.reduceEqDiff,↓reduceIte,Nat.reduceAdd,reduceCtorEq,↓AtT,↓AtJ]
     exact g2
   ·rw [if_neg hp] at g
    simp only at g
    have hp2:noE.isPrefixOf q=false:=Bool.eq_false_iff.2 hp
    rw [if_neg hp,hp2]
    have ht0:¬ (t++[10]=([]:List UInt8)):=by simp
    simp -dsimp (disch:=first | assumption | omega | (simp only [Atb];try omega)) only [↓Ate,Ata,Atf,Atd,eq_self,Nat.reduceEqDiff,↓reduceIte,reduceCtorEq,ho,↓AvG]
    have g2:=g _ rfl
    cases β
    ·by_cases hk0:k<0
     ·simp only [hk0,decide_true,Bool.true_or,Bool.or_true] at g2
      simp -dsimp (disch:=first | assumption | omega | (simp only [Atb];try omega)) only [↓Ate,Ata,Atf,Atd,eq_self,Nat.reduceEqDiff,↓reduceIte,Nat.reduceAdd,reduceCtorEq,↓AtT,↓AtJ]
      exact g2
     ·simp only [hk0,ht0,decide_false,Bool.false_or] at g2
      simp -dsimp (disch:=first | assumption | omega | (simp only [Atb];try omega)) only [↓Ate,Ata,Atf,Atd,eq_self,Nat.reduceEqDiff,↓reduceIte,Nat.reduceAdd,reduceCtorEq,ht0,↓AtT,↓AtJ]
      exact g2
    ·simp only [Bool.true_or] at g2
     simp -dsimp (disch:=first | assumption | omega | (simp only [Atb];try omega)) only [↓Ate,Ata,Atf,Atd,eq_self,Nat.reduceEqDiff,↓reduceIte,Nat.reduceAdd,reduceCtorEq,↓AtT,↓AtJ]
     exact g2
end
section
open Go.RowKit
variable [AtW]
theorem Ato.giveLast {P:Program} {f:FuncId} {args:List TV} {H:List Ob} {K:TV→List Ob→Prop} (h:Ato P f args H fun x H'=>∃ (xs:List TV) (g k v n m cp:Nat) (cs:List TV),x = .agg (xs++[.os g k v [] 0 n cp])∧H'[k]?=some (.obj v (.arr m g cs))∧n≤cs.length∧K (.agg (xs++[.sl g (cs.take n)])) (H'.set k (.gone v))):Ato P f args H K:=by
 intro β F w vs hs hv
 refine (h β F w vs hs hv).mono ?_
 rintro _ w' ⟨v,x,β',H',F',rfl,⟨xs,g,k,ver,n,m,cp,cs,rfl,ho,hn,hK⟩,hs',hl,hx⟩
 obtain ⟨k1,k2⟩:=hs'.freeze ho rfl
 refine ⟨v,_,β',_,_,rfl,hK,k1,hl.trans k2,?_⟩
 have hcs:AuO [] g 0 n (.arr m g cs)=some (cs.take n):=by unfold AuO; simp [Ax2,hn]
 rcases hx with (hx | hx | ⟨us,hx,rfl⟩) | ⟨_,_,hx,_⟩
 ·cases hx
 ·cases hx
 ·refine .inl (.inr (.inr ⟨us,?_,rfl⟩))
  rw [Atg] at hx ⊢
  obtain ⟨a,b,rfl,h1,h2⟩:=Ath.split hx
  refine Ath.append (Ath.mono (k2.mono hs') h1) ?_
  rw [Ath] at h2 ⊢
  obtain ⟨c,d,rfl,h3,h4⟩:=h2
  refine ⟨c,d,rfl,hs'.give ho hcs h3,?_⟩
  rw [Ath] at h4 ⊢
  exact h4
 ·cases hx
end
section
open Go.RowKit
variable [AtW] [Ati] [Atv] [Atx] [Atw] [AvU]
theorem AUQ {l:List EZ} {n:Nat} (h:n=l.length):(l.map ez).take n=l.map ez:=by rw [List.take_of_length_le (by simp [h])]
theorem AFL {l:List EZ} {x:EZ}:l.map ez++[TV.agg [i64 x.1,ts x.2]]=(l++[x]).map ez:=by simp [ez]
theorem AGP {a b:TV}:(List.replicate 1 a).set 0 b=[b]:=by simp
theorem AIG {HH:List Ob} {k ver:Nat} {a b:Int} {es:List EZ} (h:HH[k]?=some (.obj ver (.arr es.length 2 (es.map ez)))):ATi HH [.agg [i64 a,i64 b,.os 2 k ver [] 0 es.length es.length]]=some [.agg [i64 a,i64 b,.sl 2 (es.map ez)]]:=by
 unfold ATi
 simp -dsimp (disch:=first | assumption | omega | (simp only [Atb];try omega)) only [Atd,eq_self,↓reduceIte,AyB,Avs,h,AuO,Ax2]
def chg (es:List EZ):Bool:=es.any (fun e=>decide (e.1≠0))
structure HSt (s:List UInt8) (a b n m:Int) (es:List EZ) (r:List UInt8) (β:Bool) (ch:Bool):Prop where
 bad:β=true→AxC s=none
 good:β=false→∃ A N B M:Nat,a=(A:Int)∧n=(N:Int)∧b=(B:Int)∧m=(M:Int)∧(AxC s=match AHE N M r es with | none=>none | some (es',r')=>some (⟨A,B,es'⟩,r'))∧es.length+r.length≤s.length∧ch=chg es
 len:es.length≤s.length+1
 rest:r.length≤s.length
theorem HSt.start {s r:List UInt8} {a b n m:Int} {β:Bool} (h:β=(ABi s).isNone) (hv:∀ p q r0,ABi s=some (p,q,r0)→a=(p.1:Int)∧n=(p.2:Int)∧b=(q.1:Int)∧m=(q.2:Int)∧r=r0) (hr:r.length≤s.length):HSt s a b n m [] r β false:=by
 refine ⟨fun hb => ?_,fun hb => ?_,by simp,hr⟩
 ·unfold AxC
  cases hh:ABi s with
  | none=>rfl
  | some t=>rw [hb,hh] at h; cases h
 ·cases hh:ABi s with
  | none=>rw [hb,hh] at h; cases h
  | some t =>
   obtain ⟨⟨A,N⟩,⟨B,M⟩,r0⟩:=t
   obtain ⟨h1,h2,h3,h4,rfl⟩:=hv _ _ _ hh
   refine ⟨A,N,B,M,h1,h2,h3,h4,?_,by simpa using hr,rfl⟩
   unfold AxC
   rw [hh]
   rfl
theorem ATY (es:List EZ) (e:EZ):chg (es++[e])=(chg es || decide (e.1≠0)):=by unfold chg; simp
theorem HSt.step {s r r2:List UInt8} {a b n m:Int} {ch:Bool} {es:List EZ} {e:EZ} {β2:Bool} (h:HSt s a b n m es r false ch) (hc:(zN es:Int)<n∨(zM es:Int)<m) (hβ:β2=(false || (lnF r).isNone)) (hv:∀ e0 r0,lnF r=some (e0,r0)→e=e0∧r2=r0) (hr:r2.length≤r.length):HSt s a b n m (es++[e]) r2 β2 (ch || decide (e.1≠0)):=by
 obtain ⟨A,N,B,M,h1,h2,h3,h4,h5,h6,h7⟩:=h.good rfl
 have hc2:zN es<N∨zM es<M:=by omega
 refine ⟨fun hb => ?_,fun hb => ?_,by simp; omega,by omega⟩
 ·cases hl:lnF r with
  | none=>rw [h5,AI2 hc2 hl]
  | some t=>rw [hb,hl] at hβ; cases hβ
 ·cases hl:lnF r with
  | none=>rw [hb,hl] at hβ; cases hβ
  | some t =>
   obtain ⟨e0,r0⟩:=t
   obtain ⟨rfl,rfl⟩:=hv _ _ hl
   have hsp:=Avu hl
   exact ⟨A,N,B,M,h1,h2,h3,h4,by rw [h5,AK1 hc2 hl],by simp; omega,by rw [ATY,h7]⟩
theorem HSt.stop {s r:List UInt8} {a b n m:Int} {ch:Bool} {es:List EZ} {β:Bool} (h:HSt s a b n m es r β ch) (hc:β=false→¬ ((zN es:Int)<n∨(zM es:Int)<m)) :
  (β || !ch || decide ((zN es:Int)≠n) || decide ((zM es:Int)≠m))=(AxC s).isNone∧∀ x r0,AxC s=some (x,r0)→a=(x.at_:Int)∧b=(x.to_:Int)∧es=x.es∧r=r0:=by
 cases β with
 | true=>rw [h.bad rfl]; exact ⟨rfl,fun x r0 hx=>by cases hx⟩
 | false =>
  obtain ⟨A,N,B,M,h1,h2,h3,h4,h5,h6,h7⟩:=h.good rfl
  have hc2:¬ (zN es<N∨zM es<M):=by have:=hc rfl; omega
  rw [h5,AHi hc2]
  by_cases hg:zN es=N∧zM es=M∧chg es=true
  ·have:zN es=N∧zM es=M∧es.any (fun e=>decide (e.1≠0))=true:=hg
   rw [if_pos this]
   refine ⟨?_,fun x r0 hx => ?_⟩
   ·rw [h7,hg.2.2,h2,h4,hg.1,hg.2.1]; simp
   ·cases hx; exact ⟨h1,h3,rfl,rfl⟩
  ·have:¬ (zN es=N∧zM es=M∧es.any (fun e=>decide (e.1≠0))=true):=hg
   rw [if_neg this]
   refine ⟨?_,fun x r0 hx=>by cases hx⟩
   rw [h7,h2,h4]
   by_cases g1:chg es=true
   ·by_cases g2:zN es=N
    ·have g3:¬ zM es=M:=fun g3=>hg ⟨g2,g3,g1⟩
     have:¬ (zM es:Int)=(M:Int):=by omega
     simp [this]
    ·have:¬ (zN es:Int)=(N:Int):=by omega
     simp [this]
   ·simp [Bool.eq_false_iff.2 g1]
theorem AW4 {s:List UInt8} (hs:s.length≤900000) {id v:Nat} {H:List Ob} (ho:H[id]?=some (.obj v (.agg [ts s,tb false]))) {K:TV→List Ob→Prop}
  (hK:∀ (a b:Int) (es:List EZ) (r:List UInt8) (β':Bool) (ver m:Nat) (o1 o2:Ob) (T:List Ob),β'=(AxC s).isNone→(∀ h r0,AxC s=some (h,r0)→a=(h.at_:Int)∧b=(h.to_:Int)∧es=h.es∧r=r0)→r.length≤s.length→es.length≤1000001 →
   K (.agg [i64 a,i64 b,.os 2 (H.length+2) ver [] 0 es.length m]) (H.set id (.obj v (.agg [ts r,tb β']))++[o1,o2]++[.obj ver (.arr m 2 (es.map ez))]++T)):Ato Tryz.prog 27 [.op id v []] H K:=by
 refine ADf (by simp) ?_
 have hid:id<H.length:=(List.getElem?_eq_some_iff.1 ho).1
 have hset:∀ (X Y:Ob) (T:List Ob),(H.set id X++T).set id Y=H.set id Y++T:=fun X Y T=>by rw [List.set_append_left _ _ (by rw [List.length_set]; exact hid),List.set_set]
 have hlen:∀ X:Ob,(H.set id X).length=H.length:=fun X=>List.length_set ..
 simp -dsimp (disch:=first | assumption | omega | (simp only [Atb];try omega)) only [↓Ate,Ata,Atf,Atd,eq_self,Nat.reduceEqDiff,↓reduceIte,reduceCtorEq,↓ACz,↓AzP,↓Ay8]
 refine AvI (ALW (id:=id) (v:=v) (s:=s) (β:=false) (by rw [List.append_assoc,List.getElem?_append_left hid]; exact ho) ?_)
 rw [List.append_assoc,List.set_append_left _ _ hid]
 have hd1:(AwK [64,64,32,45] s).length≤s.length:=AvM _ _
 have w1:∀ r,Aur wAt s=some r→Lib.hasPrefix s [64,64,32,45]=true∧AwK [64,64,32,45] s=r:=fun r=>AIM
 have w1n:Aur wAt s=none→Lib.hasPrefix s [64,64,32,45]=false:=AJc
 generalize AwK [64,64,32,45] s=s1 at *
 generalize hβ1:(false || !Lib.hasPrefix s [64,64,32,45])=β1
 simp -dsimp (disch:=first | assumption | omega | (simp only [Atb];try omega)) only [↓Ate,Ata,Atf,Atd,eq_self,Nat.reduceEqDiff,↓reduceIte,reduceCtorEq,↓AzF]
 refine AvI (AOL (by omega) (AGY hid) fun a n s2 β2 hβ2 hv2 ha0 ha1 hn0 hn1 hd2 => ?_)
 rw [hset]
 simp -dsimp (disch:=first | assumption | omega | (simp only [Atb];try omega)) only [↓Ate,Ata,Atf,Atd,eq_self,Nat.reduceEqDiff,↓reduceIte,reduceCtorEq,↓AzL]
 refine AvI (ALW (AGY hid) ?_)
 rw [hset]
 have hd3:(AwK [32,43] s2).length≤s2.length:=AvM _ _
 have w3:∀ r,Aur wPl s2=some r→Lib.hasPrefix s2 [32,43]=true∧AwK [32,43] s2=r:=fun r=>AIM
 have w3n:Aur wPl s2=none→Lib.hasPrefix s2 [32,43]=false:=AJc
 generalize AwK [32,43] s2=s3 at *
 generalize hβ3:(β2 || !Lib.hasPrefix s2 [32,43])=β3
 simp -dsimp (disch:=first | assumption | omega | (simp only [Atb];try omega)) only [↓Ate,Ata,Atf,Atd,eq_self,Nat.reduceEqDiff,↓reduceIte,reduceCtorEq,↓Azn]
 refine AvI (AOL (by omega) (AGY hid) fun b m s4 β4 hβ4 hv4 hb0 hb1 hm0 hm1 hd4 => ?_)
 rw [hset]
 simp -dsimp (disch:=first | assumption | omega | (simp only [Atb];try omega)) only [↓Ate,Ata,Atf,Atd,eq_self,Nat.reduceEqDiff,↓reduceIte,reduceCtorEq,↓Azl]
 refine AvI (ALW (AGY hid) ?_)
 rw [hset]
 have hd5:(AwK [32,64,64,10] s4).length≤s4.length:=AvM _ _
 have w5:∀ r,Aur wEn s4=some r→Lib.hasPrefix s4 [32,64,64,10]=true∧AwK [32,64,64,10] s4=r:=fun r=>AIM
 have w5n:Aur wEn s4=none→Lib.hasPrefix s4 [32,64,64,10]=false:=AJc
 generalize AwK [32,64,64,10] s4=s5 at *
 generalize hβ5:(β4 || !Lib.hasPrefix s4 [32,64,64,10])=β5
 have head:β5=(ABi s).isNone∧∀ p q r0,ABi s=some (p,q,r0)→a=(p.1:Int)∧n=(p.2:Int)∧b=(q.1:Int)∧m=(q.2:Int)∧s5=r0:=by
  unfold ABi
  cases k1:Aur wAt s with
  | none =>
   rw [w1n k1] at hβ1
   subst hβ1
   have e2:β2=true:=by rw [hβ2]; rfl
   subst e2
   have e3:β3=true:=by rw [←hβ3]; rfl
   subst e3
   have e4:β4=true:=by rw [hβ4]; rfl
   subst e4
   exact ⟨by rw [←hβ5]; rfl,fun p q r0 h=>(by cases h)⟩
  | some r1 =>
   obtain ⟨p1,rfl⟩:=w1 r1 k1
   rw [p1] at hβ1
   subst hβ1
   simp only
   cases k2:AH5 s1 with
   | none =>
    rw [k2] at hβ2
    have e2:β2=true:=by rw [hβ2]; rfl
    subst e2
    have e3:β3=true:=by rw [←hβ3]; rfl
    subst e3
    have e4:β4=true:=by rw [hβ4]; rfl
    subst e4
    exact ⟨by rw [←hβ5]; rfl,fun p q r0 h=>(by cases h)⟩
   | some t2 =>
    obtain ⟨A,N,r2⟩:=t2
    obtain ⟨ea,en,rfl⟩:=hv2 A N r2 k2
    rw [k2] at hβ2
    have e2:β2=false:=by rw [hβ2]; rfl
    subst e2
    simp only
    cases k3:Aur wPl s2 with
    | none =>
     rw [w3n k3] at hβ3
     have e3:β3=true:=by rw [←hβ3]; rfl
     subst e3
     have e4:β4=true:=by rw [hβ4]; rfl
     subst e4
     exact ⟨by rw [←hβ5]; rfl,fun p q r0 h=>(by cases h)⟩
    | some r3 =>
     obtain ⟨p3,rfl⟩:=w3 r3 k3
     rw [p3] at hβ3
     subst hβ3
     simp only
     cases k4:AH5 s3 with
     | none =>
      rw [k4] at hβ4
      have e4:β4=true:=by rw [hβ4]; rfl
      subst e4
      exact ⟨by rw [←hβ5]; rfl,fun p q r0 h=>(by cases h)⟩
     | some t4 =>
      obtain ⟨B,M,r4⟩:=t4
      obtain ⟨eb,em,rfl⟩:=hv4 B M r4 k4
      rw [k4] at hβ4
      have e4:β4=false:=by rw [hβ4]; rfl
      subst e4
      simp only
      cases k5:Aur wEn s4 with
      | none =>
       rw [w5n k5] at hβ5
       exact ⟨by rw [←hβ5]; rfl,fun p q r0 h=>(by cases h)⟩
      | some r5 =>
       obtain ⟨p5,rfl⟩:=w5 r5 k5
       rw [p5] at hβ5
       refine ⟨by rw [←hβ5]; rfl,fun p q r0 h => ?_⟩
       cases h
       exact ⟨ea,en,eb,em,rfl⟩
 have hd:s5.length≤s.length:=by omega
 clear hβ1 hβ2 hβ3 hβ4 hβ5 w1 w1n w3 w3n w5 w5n hv2 hv4 hd1 hd2 hd3 hd4 hd5
 simp -dsimp (disch:=first | assumption | omega | (simp only [Atb];try omega)) only [↓Ate,Ata,Atf,Atd,eq_self,Nat.reduceEqDiff,↓reduceIte,Nat.reduceAdd,reduceCtorEq,↓AAg,↓AzV,↓AzU,↓AzW,hlen]
 have hsz:H.length≤9223372036854775807∨True := .inr trivial
 have st0:=HSt.start head.1 head.2 hd
 have hA:∀ (X o1 o2 o3:Ob) (T:List Ob),(H.set id X++[o1,o2]++[o3]++T)[id]?=some X:=fun X o1 o2 o3 T=>by rw [List.append_assoc,List.append_assoc]; exact AGY hid
 have hA1:∀ (X o1 o2 o3:Ob) (T:List Ob),(H.set id X++[o1,o2]++[o3]++T)[H.length+1]?=some o2:=fun X o1 o2 o3 T=>by rw [List.append_assoc,List.append_assoc,List.getElem?_append_right (by rw [hlen]; omega),hlen]; simp
 have hA2:∀ (X o1 o2 o3:Ob) (T:List Ob),(H.set id X++[o1,o2]++[o3]++T)[H.length+2]?=some o3:=fun X o1 o2 o3 T=>by rw [List.append_assoc,List.append_assoc,List.getElem?_append_right (by rw [hlen]; omega),hlen]; simp
 have hA0:∀ (X o1 o2 o3:Ob) (T:List Ob),(H.set id X++[o1,o2]++[o3]++T)[H.length]?=some o1:=fun X o1 o2 o3 T=>by rw [List.append_assoc,List.append_assoc,List.getElem?_append_right (by rw [hlen]; omega),hlen]; simp
 have hset3:∀ (X Y o1 o2 o3:Ob) (T:List Ob),(H.set id X++[o1,o2]++[o3]++T).set id Y=H.set id Y++[o1,o2]++[o3]++T:=fun X Y o1 o2 o3 T=>by rw [List.append_assoc,List.append_assoc,hset,List.append_assoc,List.append_assoc]
 refine Av3 (fun q e H'=>∃ (es:List EZ) (r:List UInt8) (β ch:Bool) (ver:Nat) (T:List Ob),q=(if β then 0 else r.length+1)∧HSt s a b n m es r β ch ∧
  e=[(0,.op id v []),(2,.op H.length 0 []),(3,.op (H.length+1) 0 []),(5,i64 n),(7,i64 m),(8,tb ch),(9,i64 (zN es:Int)),(10,i64 (zM es:Int))] ∧
  H'=H.set id (.obj v (.agg [ts r,tb β]))++[.obj 0 (.agg [i64 ((0:Nat):Int),i64 ((0:Nat):Int),.val (.slice none 0 0)]),.obj 0 (.agg [i64 a,i64 b,.os 2 (H.length+2) ver [] 0 es.length es.length])]++[.obj ver (.arr es.length 2 (es.map ez))]++T) (if β5 then 0 else s5.length+1) ?_ ?_
 ·exact ⟨[],s5,β5,false,0,[],rfl,st0,rfl,by rw [List.append_nil]; rfl⟩
 ·rintro q e H' ⟨es,r,β,ch,ver,T,rfl,st,rfl,rfl⟩
  have hzn:=AOx es
  have hzm:=APf es
  have hel:=st.len
  have hrl:=st.rest
  have fin:(β=false→¬ ((zN es:Int)<n∨(zM es:Int)<m))→∀ qq:TV,vwp Tryz.prog AuH (AHv Avc K) [(0,.op id v []),(2,.op H.length 0 []),(3,.op (H.length+1) 0 []),(5,i64 n),(7,i64 m),(8,tb ch),(48,qq)]
    (H.set id (.obj v (.agg [ts r,tb β]))++[.obj 0 (.agg [i64 ((0:Nat):Int),i64 ((0:Nat):Int),.val (.slice none 0 0)]),.obj 0 (.agg [i64 a,i64 b,.os 2 (H.length+2) ver [] 0 es.length es.length])]++[.obj ver (.arr es.length 2 (es.map ez))]++T):=by
   intro hc qq
   obtain ⟨f1,f2⟩:=st.stop hc
   have hK2:=fun β' o1 o2 h1=>hK a b es r β' ver es.length o1 o2 T h1 f2 (by omega) (by omega)
   simp -dsimp (disch:=first | assumption | omega | (simp only [Atb];try omega)) only [↓Ate,Ata,Atf,Atd,eq_self,Nat.reduceEqDiff,↓reduceIte,Nat.reduceAdd,reduceCtorEq,↓Az1,hA1]
   refine (AFa es a b (by omega)).lends (AIG (hA2 _ _ _ _ _)) fun x hx=>⟨by rw [hx]; rfl,?_⟩
   subst hx
   cases β with
   | true =>
    have hK3:=hK2 true
    simp only [Bool.true_or] at f1
    cases ch
    all_goals
     simp -dsimp (disch:=first | assumption | omega | (simp only [Atb];try omega)) only [↓Ate,Ata,Atf,Atd,eq_self,Nat.reduceEqDiff,↓reduceIte,Nat.reduceAdd,reduceCtorEq,↓Aue,↓Aus,hA,hA0,hA1]
     exact hK3 _ _ f1
   | false =>
    cases ch with
    | false =>
     simp only [Bool.not_false,Bool.or_true,Bool.true_or] at f1
     simp -dsimp (disch:=first | assumption | omega | (simp only [Atb];try omega)) only [↓Ate,Ata,Atf,Atd,eq_self,Nat.reduceEqDiff,↓reduceIte,Nat.reduceAdd,reduceCtorEq,↓Aue,↓Aus,hA,hA0,hA1]
     exact hK2 _ _ _ f1
    | true =>
     by_cases g1:(zN es:Int)=n
     ·by_cases g2:(zM es:Int)=m
      ·have f3:false=(AxC s).isNone:=by rw [←f1]; simp [g1,g2]
       simp -dsimp (disch:=first | assumption | omega | (simp only [Atb];try omega)) only [↓Ate,Ata,Atf,Atd,eq_self,Nat.reduceEqDiff,↓reduceIte,Nat.reduceAdd,reduceCtorEq,g1,g2,↓Aue,↓Aus,hA,hA0,hA1]
       exact hK2 _ _ _ f3
      ·have f3:true=(AxC s).isNone:=by rw [←f1]; simp [g2]
       simp -dsimp (disch:=first | assumption | omega | (simp only [Atb];try omega)) only [↓Ate,Ata,Atf,Atd,eq_self,Nat.reduceEqDiff,↓reduceIte,Nat.reduceAdd,reduceCtorEq,g1,g2,↓Aue,↓Aus,hA,hA0,hA1]
       exact hK2 _ _ _ f3
     ·have f3:true=(AxC s).isNone:=by rw [←f1]; simp [g1]
      simp -dsimp (disch:=first | assumption | omega | (simp only [Atb];try omega)) only [↓Ate,Ata,Atf,Atd,eq_self,Nat.reduceEqDiff,↓reduceIte,Nat.reduceAdd,reduceCtorEq,g1,↓Aue,↓Aus,hA,hA0,hA1]
      exact hK2 _ _ _ f3
  cases β with
  | true =>
   simp -dsimp (disch:=first | assumption | omega | (simp only [Atb];try omega)) only [↓Ate,Ata,Atf,Atd,eq_self,Nat.reduceEqDiff,↓reduceIte,Nat.reduceAdd,reduceCtorEq,↓Auv,hA]
   exact fin (fun h=>by cases h) _
  | false =>
   have go:((zN es:Int)<n∨(zM es:Int)<m)→∀ qq:TV,vwp Tryz.prog Avk (Rnd (H.length+2+1) [0,2,3,5,7,8,9,10] (Blk 0 (Thn Tryz.prog AuH (AHv Avc K))) (fun q e H'=>∃ (es:List EZ) (r:List UInt8) (β ch:Bool) (ver:Nat) (T:List Ob),q=(if β then 0 else r.length+1)∧HSt s a b n m es r β ch ∧
  e=[(0,.op id v []),(2,.op H.length 0 []),(3,.op (H.length+1) 0 []),(5,i64 n),(7,i64 m),(8,tb ch),(9,i64 (zN es:Int)),(10,i64 (zM es:Int))] ∧
  H'=H.set id (.obj v (.agg [ts r,tb β]))++[.obj 0 (.agg [i64 ((0:Nat):Int),i64 ((0:Nat):Int),.val (.slice none 0 0)]),.obj 0 (.agg [i64 a,i64 b,.os 2 (H.length+2) ver [] 0 es.length es.length])]++[.obj ver (.arr es.length 2 (es.map ez))]++T) (r.length+1)) [(0,.op id v []),(2,.op H.length 0 []),(3,.op (H.length+1) 0 []),(5,i64 n),(7,i64 m),(8,tb ch),(48,qq)]
    (H.set id (.obj v (.agg [ts r,tb false]))++[.obj 0 (.agg [i64 ((0:Nat):Int),i64 ((0:Nat):Int),.val (.slice none 0 0)]),.obj 0 (.agg [i64 a,i64 b,.os 2 (H.length+2) ver [] 0 es.length es.length])]++[.obj ver (.arr es.length 2 (es.map ez))]++T):=by
    intro hc qq
    simp -dsimp (disch:=first | assumption | omega | (simp only [Atb];try omega)) only [↓Ate,Ata,Atf,Atd,eq_self,↓reduceIte,↓AAe]
    refine AvI (AYH (by omega) (hA _ _ _ _ _) fun e r2 β2 hβ hv he0 he1 hel2 hr2 => ?_)
    rw [hset3]
    have st2:=st.step hc hβ hv hr2
    have hl1:∀ (x:TV),[x].length=1:=fun x=>rfl
    have hB:∀ (X o1 o2 o3:Ob) (T G:List Ob),H.set id X++[o1,o2]++[o3]++T++G=H.set id X++[o1,o2]++[o3]++(T++G):=fun X o1 o2 o3 T G=>List.append_assoc ..
    rw [hB]
    generalize hT1:T++[Ob.obj 0 (ez e)]=T1
    have hC:∀ (X o1 o2 o3:Ob) (T:List Ob) (o:Ob),(H.set id X++[o1,o2]++[o3]++T++[o])[H.length+2+1+T.length]?=some o:=fun X o1 o2 o3 T o=>by
     rw [List.getElem?_append_right (by simp; omega)]; simp [show H.length+2+1+T.length - (H.length+(T.length+1+1+1))=0 by omega]
    have hCs:∀ (X o1 o2 o3:Ob) (T:List Ob) (o Y:Ob),(H.set id X++[o1,o2]++[o3]++T++[o]).set (H.length+2+1+T.length) Y=H.set id X++[o1,o2]++[o3]++T++[Y]:=fun X o1 o2 o3 T o Y=>by
     rw [List.set_append_right _ _ (by simp; omega)]; simp [show H.length+2+1+T.length - (H.length+(T.length+1+1+1))=0 by omega]
    have hE1:∀ (X o1 o2 o3:Ob) (T:List Ob) (o:Ob),(H.set id X++[o1,o2]++[o3]++T++[o])[H.length+1]?=some o2:=fun X o1 o2 o3 T o=>by rw [hB]; exact hA1 ..
    have hE2:∀ (X o1 o2 o3:Ob) (T:List Ob) (o:Ob),(H.set id X++[o1,o2]++[o3]++T++[o])[H.length+2]?=some o3:=fun X o1 o2 o3 T o=>by rw [hB]; exact hA2 ..
    rw [ADZ]
    have el:es.length+1=(es++[e]).length:=by simp
    have hmeas:(if β2 then 0 else r2.length+1)<r.length+1:=by
     cases β2 with
     | true=>simp
     | false =>
      cases hl:lnF r with
      | none=>rw [hl] at hβ; cases hβ
      | some t =>
       obtain ⟨e0,r0⟩:=t
       obtain ⟨rfl,rfl⟩:=hv _ _ hl
       have:=(Avu hl).1
       simp; omega
    cases ch
    ·by_cases hk0:e.1=0
     ·have hkt:(e.1=0)=True:=eq_true hk0
      simp -dsimp (disch:=first | assumption | omega | (simp only [Atb];try omega)) only [↓Ate,Ata,Atf,Atd,eq_self,Nat.reduceEqDiff,↓reduceIte,Nat.reduceAdd,reduceCtorEq,Nat.reduceLeDiff,↓Au3,hC,hCs,hE1,hE2,AGP,hl1,AFL]
      rw [el]
      refine (AFa (es++[e]) a b (by simp; omega)).lends (AIG (by rw [hB,hB]; exact hA2 ..)) fun x hx=>⟨by rw [hx]; rfl,?_⟩
      subst hx
      simp -dsimp (disch:=first | assumption | omega | (simp only [Atb];try omega)) only [↓Ate,Ata,Atf,Atd,eq_self,Nat.reduceEqDiff,↓reduceIte,reduceCtorEq]
      refine Auj (if β2 then 0 else r2.length+1) hmeas (by simp; omega) ⟨es++[e],r2,β2,_,ver+1,_,rfl,?_,rfl,by rw [hB,hB,←el]⟩
      simpa [hk0] using st2
     ·simp -dsimp (disch:=first | assumption | omega | (simp only [Atb];try omega)) only [↓Ate,Ata,Atf,Atd,eq_self,Nat.reduceEqDiff,↓reduceIte,Nat.reduceAdd,reduceCtorEq,Nat.reduceLeDiff,↓Au3,hC,hCs,hE1,hE2,AGP,hl1,AFL]
      rw [el]
      refine (AFa (es++[e]) a b (by simp; omega)).lends (AIG (by rw [hB,hB]; exact hA2 ..)) fun x hx=>⟨by rw [hx]; rfl,?_⟩
      subst hx
      simp -dsimp (disch:=first | assumption | omega | (simp only [Atb];try omega)) only [↓Ate,Ata,Atf,Atd,eq_self,Nat.reduceEqDiff,↓reduceIte,reduceCtorEq]
      refine Auj (if β2 then 0 else r2.length+1) hmeas (by simp; omega) ⟨es++[e],r2,β2,_,ver+1,_,rfl,?_,rfl,by rw [hB,hB,←el]⟩
      simpa [hk0] using st2
    ·simp -dsimp (disch:=first | assumption | omega | (simp only [Atb];try omega)) only [↓Ate,Ata,Atf,Atd,eq_self,Nat.reduceEqDiff,↓reduceIte,Nat.reduceAdd,reduceCtorEq,Nat.reduceLeDiff,↓Au3,hC,hCs,hE1,hE2,AGP,hl1,AFL]
     rw [el]
     refine (AFa (es++[e]) a b (by simp; omega)).lends (AIG (by rw [hB,hB]; exact hA2 ..)) fun x hx=>⟨by rw [hx]; rfl,?_⟩
     subst hx
     simp -dsimp (disch:=first | assumption | omega | (simp only [Atb];try omega)) only [↓Ate,Ata,Atf,Atd,eq_self,Nat.reduceEqDiff,↓reduceIte,reduceCtorEq]
     refine Auj (if β2 then 0 else r2.length+1) hmeas (by simp; omega) ⟨es++[e],r2,β2,_,ver+1,_,rfl,?_,rfl,by rw [hB,hB,←el]⟩
     simpa [] using st2
   by_cases g1:(zN es:Int)<n
   ·simp -dsimp (disch:=first | assumption | omega | (simp only [Atb];try omega)) only [↓Ate,Ata,Atf,Atd,eq_self,Nat.reduceEqDiff,↓reduceIte,Nat.reduceAdd,reduceCtorEq,↓Auv,hA,g1]
    exact go (.inl g1) _
   ·by_cases g2:(zM es:Int)<m
    ·simp -dsimp (disch:=first | assumption | omega | (simp only [Atb];try omega)) only [↓Ate,Ata,Atf,Atd,eq_self,Nat.reduceEqDiff,↓reduceIte,Nat.reduceAdd,reduceCtorEq,↓Auv,hA,g1,g2]
     exact go (.inr g2) _
    ·simp -dsimp (disch:=first | assumption | omega | (simp only [Atb];try omega)) only [↓Ate,Ata,Atf,Atd,eq_self,Nat.reduceEqDiff,↓reduceIte,Nat.reduceAdd,reduceCtorEq,↓Auv,hA,g1,g2]
     exact fin (fun _ h=>h.elim g1 g2) _
theorem AYb {s:List UInt8} (hs:s.length≤900000) {id v:Nat} {H:List Ob} (ho:H[id]?=some (.obj v (.agg [ts s,tb false]))) {K:TV→List Ob→Prop}
  (hK:∀ (a b:Int) (es:List EZ) (r:List UInt8) (β':Bool) (G:List Ob),β'=(AxC s).isNone→(∀ h r0,AxC s=some (h,r0)→a=(h.at_:Int)∧b=(h.to_:Int)∧es=h.es∧r=r0)→r.length≤s.length→es.length≤1000001 →
   K (.agg [i64 a,i64 b,.sl 2 (es.map ez)]) (H.set id (.obj v (.agg [ts r,tb β']))++G)):Ato Tryz.prog 27 [.op id v []] H K:=by
 refine Ato.giveLast (AW4 hs ho fun a b es r β' ver m o1 o2 T h1 h2 h3 h4=>⟨[i64 a,i64 b],2,H.length+2,ver,es.length,m,m,es.map ez,rfl,?_,by simp,?_⟩)
 ·rw [List.append_assoc,List.append_assoc,List.getElem?_append_right (by simp)]; simp
 ·rw [AUQ rfl,List.append_assoc,List.append_assoc,List.set_append_right _ _ (by simp)]
  exact hK a b es r β' _ h1 h2 h3 h4
end
section
open Go.RowKit Go.Extern.Stop Go.Stop Go.Extern
variable [AtW]
theorem AK3 (t:Addr) (w:World):(ReflectliteValue.unpack (.iface 59 (.pointer (some t)))).run Tryz.prog w
  = .ok (.agg #[.pointer (some ⟨10,59,none⟩),.pointer (some ⟨w.heap.size,0,none⟩),.int .u64 150]) (w.alloc (.cells #[.pointer (some t)] 59)):=by kernel_rfl
theorem ARc (a:Addr) (w:World):(ReflectliteValue.methodAny (ReflectliteValue.valueError "reflectlite.Value.Type" 0) (fun t _ _ _=>ReflectliteType.toType t) #[.agg #[.pointer (some ⟨10,59,none⟩),.pointer (some a),.int .u64 150]]).run Tryz.prog w
  = .ok (.iface 112 (.agg #[.pointer (some ⟨10,59,none⟩)])) w:=by kernel_rfl
theorem AJL (h:Value) (w:World):(Go.method 316 112 (.agg #[h]) "Kind").run Tryz.prog w = .ok (122,h) w:=by kernel_rfl
theorem AQo (w:World):((ReflectliteType.abiMethod fun t=>(fun a:Nat=>Value.int IntKind.u8 (a:Int)) <$> Rtype.kind t) #[.pointer (some ⟨10,59,none⟩)]).run Tryz.prog w = .ok (.int .u8 22) w:=by kernel_rfl
theorem AQM (w:World):((ReflectliteType.abiMethod fun t=>(fun a:Nat=>Value.int IntKind.u8 (a:Int)) <$> Rtype.kind t) #[.pointer (some ⟨10,31,none⟩)]).run Tryz.prog w = .ok (.int .u8 2) w:=by kernel_rfl
theorem rlm (z:Sem Value) (f:TypeId→Addr→Nat→Nat→Sem Value) (v:Value) :
  ReflectliteValue.method z f #[v]=(do match ← ReflectliteValue.parts v with | none=>z | some (t,a,fl)=>f t a fl (fl % 32)):=rfl
theorem AKv (a:Addr) (w:World):(ReflectliteValue.parts (.agg #[.pointer (some ⟨10,59,none⟩),.pointer (some a),.int .u64 150])).run Tryz.prog w = .ok (some (59,a,150)) w:=by kernel_rfl
theorem AO8 (a p:Addr) (W:World) (ha:W.cell? a=some (.pointer (some p))) :
  (ReflectliteValue.method (ReflectliteValue.valueError "reflectlite.Value.IsNil" 0) ReflectliteValue.isNil #[.agg #[.pointer (some ⟨10,59,none⟩),.pointer (some a),.int .u64 150]]).run Tryz.prog W = .ok (.bool false) W:=by
 rw [rlm]
 simp only [Sem.run_bind,AKv,Result.andThen]
 simp [ReflectliteValue.isNil,loadVar,isAgg,underlying,Tryz.underlying59,ha,Result.andThen]
theorem AKA (h:Value) (w:World):(Go.method 316 112 (.agg #[h]) "Elem").run Tryz.prog w = .ok (133,.agg #[h]) w:=by kernel_rfl
theorem ADV (h:Value) (w:World):(Go.method 316 112 (.agg #[h]) "Implements").run Tryz.prog w = .ok (134,.agg #[h]) w:=by kernel_rfl
theorem ACo (h:Value) (w:World):(Go.method 316 112 (.agg #[h]) "AssignableTo").run Tryz.prog w = .ok (131,.agg #[h]) w:=by kernel_rfl
theorem ARY (w:World):(ReflectliteType.method ReflectliteType.elem #[.agg #[.pointer (some ⟨10,59,none⟩)]]).run Tryz.prog w = .ok (.iface 112 (.agg #[.pointer (some ⟨10,31,none⟩)])) w:=by kernel_rfl
theorem AHZ (w:World):(ReflectliteType.relation "Implements" ReflectliteType.implements_ #[.agg #[.pointer (some ⟨10,31,none⟩)],.iface 112 (.agg #[.pointer (some ⟨10,25,none⟩)])]).run Tryz.prog w = .ok (.bool true) w:=by kernel_rfl
theorem AMy (v:Value) (w:World):(ReflectliteType.typeOf #[.iface 31 v]).run Tryz.prog w = .ok (.iface 112 (.agg #[.pointer (some ⟨10,31,none⟩)])) w:=by kernel_rfl
theorem AHU (w:World):(ReflectliteType.relation "AssignableTo" ReflectliteType.assignableTo #[.agg #[.pointer (some ⟨10,31,none⟩)],.iface 112 (.agg #[.pointer (some ⟨10,31,none⟩)])]).run Tryz.prog w = .ok (.bool true) w:=by kernel_rfl
theorem ALr (e:Int) (w:World):(ReflectliteValue.unpack (.iface 31 (.int .i64 e))).run Tryz.prog w
  = .ok (.agg #[.pointer (some ⟨10,31,none⟩),.pointer (some ⟨w.heap.size,0,none⟩),.int .u64 130]) (w.alloc (.cells #[.int .i64 e] 31)):=by kernel_rfl
theorem AM5 (w:World):(Rtype.elem? 59).run Tryz.prog w = .ok (some 31) w:=by kernel_rfl
theorem AYR (p:Addr) (w:World):(ReflectliteValue.mk 31 p ReflectliteValue.flagAddr).run Tryz.prog w = .ok (.agg #[.pointer (some ⟨10,31,none⟩),.pointer (some p),.int .u64 386]) w:=by kernel_rfl
theorem ANX (a p:Addr) (W:World) (ha:W.cell? a=some (.pointer (some p))) :
  (ReflectliteValue.method (ReflectliteValue.valueError "reflectlite.Value.Elem" 0) ReflectliteValue.elem #[.agg #[.pointer (some ⟨10,59,none⟩),.pointer (some a),.int .u64 150]]).run Tryz.prog W
   = .ok (.agg #[.pointer (some ⟨10,31,none⟩),.pointer (some p),.int .u64 386]) W:=by
 rw [rlm]
 simp only [Sem.run_bind,AKv,Result.andThen]
 simp [ReflectliteValue.elem,loadVar,isAgg,underlying,Tryz.underlying59,ha,Result.andThen,AM5,AYR]
theorem rls (v x:Value):ReflectliteValue.set #[v,x]=(do
  let (some (dst,a,fl),some (src,b,_)):=(←ReflectliteValue.parts v,←ReflectliteValue.parts x)
   | unsupported (.noEntry "extern/(internal/reflectlite.Value).Set.zeroValue")
  if fl / ReflectliteValue.flagAddr % 2 == 0 then unsupported (.noEntry "extern/(internal/reflectlite.Value).Set.unaddressable")
  let val ← loadVar src b
  if ← Rtype.directlyAssignable dst src then storeVar dst a val
  else if ← Rtype.implements dst src then
   if (←Rtype.kind src) == 20 then
    match val with
    | .nilIface=>unsupported (.noEntry "extern/reflectlite: a nil value of one interface type handed on as a value of another")
    | _=>storeVar dst a val
   else storeVar dst a (.iface src val)
  else panicString ("reflectlite.Set: value of type " ++ (←Rtype.spelt src) ++ " is not assignable to type " ++ (←Rtype.spelt dst))
  pure (.tuple #[])):=rfl
theorem AM1 (a:Addr) (w:World):(ReflectliteValue.parts (.agg #[.pointer (some ⟨10,31,none⟩),.pointer (some a),.int .u64 386])).run Tryz.prog w = .ok (some (31,a,386)) w:=by kernel_rfl
theorem ANF (a:Addr) (w:World):(ReflectliteValue.parts (.agg #[.pointer (some ⟨10,31,none⟩),.pointer (some a),.int .u64 130])).run Tryz.prog w = .ok (some (31,a,130)) w:=by kernel_rfl
theorem AMD (w:World):(Rtype.directlyAssignable 31 31).run Tryz.prog w = .ok true w:=by kernel_rfl
theorem AUL (ta b:Addr) (e:Int) (old:Value) (W:World) (hb:W.cell? b=some (.int .i64 e)) (ht:W.cell? ta=some old) (hf:W.frozen? ta=false) :
  (ReflectliteValue.set #[.agg #[.pointer (some ⟨10,31,none⟩),.pointer (some ta),.int .u64 386],.agg #[.pointer (some ⟨10,31,none⟩),.pointer (some b),.int .u64 130]]).run Tryz.prog W
   = .ok (.tuple #[]) (W.setCell ta (.int .i64 e)):=by
 rw [rls]
 simp only [Sem.run_bind,AM1,ANF,Result.andThen]
 simp [ReflectliteValue.flagAddr,loadVar,isAgg,underlying,Tryz.underlying31,hb,Result.andThen,AMD,storeVar,Value.cells,storeCells,Addr.add]
 rw [run_store Tryz.prog W ta _ _ (by rfl)]
 simp [ht,hf]
set_option maxHeartbeats 4000000 in
theorem AYu (e:Int) (t:Addr) (old:Value) (w:World) (hg:w.cell? ⟨0,0,none⟩=some (.iface 112 (.agg #[.pointer (some ⟨10,25,none⟩)]))) (ht0:w.cell? t=some old) (hf0:w.frozen? t=false) :
  Calls Tryz.prog 20 #[.iface 31 (.int .i64 e),.iface 59 (.pointer (some t))] w fun ev w'=>ev = .returned (.bool true)∧w'=((((w.alloc (.cells #[.pointer (some t)] 59)).alloc (.cells #[.pointer (some ⟨10,59,none⟩),.pointer (some ⟨w.heap.size,0,none⟩),.int .u64 150] 89)).alloc (.cells #[.pointer (some ⟨10,59,none⟩),.pointer (some ⟨w.heap.size,0,none⟩),.int .u64 150] 89)).alloc (.cells #[.int .i64 e] 31)).setCell t (.int .i64 e):=by
 have h6:=@run_callFunc_extern Tryz.prog 35 _ (fun args=>ReflectliteValue.unpack (args.getD 0 (.tuple #[]))) Tryz.func35 (by kernel_rfl) (by kernel_rfl) (by kernel_rfl) (by kernel_rfl)
 have h7:=@run_callFunc_extern Tryz.prog 36 _ (ReflectliteValue.methodAny (ReflectliteValue.valueError "reflectlite.Value.Type" 0) (fun t _ _ _=>ReflectliteType.toType t)) Tryz.func36 (by kernel_rfl) (by kernel_rfl) (by kernel_rfl) (by kernel_rfl)
 have h8:=@run_callFunc_extern Tryz.prog 37 _ (ReflectliteValue.method (ReflectliteValue.valueError "reflectlite.Value.IsNil" 0) ReflectliteValue.isNil) Tryz.func37 (by kernel_rfl) (by kernel_rfl) (by kernel_rfl) (by kernel_rfl)
 have h27:=@run_callFunc_extern Tryz.prog 122 _ (ReflectliteType.abiMethod fun t=>do pure (.int .u8 (←Rtype.kind t))) Tryz.func122 (by kernel_rfl) (by kernel_rfl) (by kernel_rfl) (by kernel_rfl)
 have h37:=@run_callFunc_extern Tryz.prog 133 _ (ReflectliteType.method ReflectliteType.elem) Tryz.func133 (by kernel_rfl) (by kernel_rfl) (by kernel_rfl) (by kernel_rfl)
 have h38:=@run_callFunc_extern Tryz.prog 134 _ (ReflectliteType.relation "Implements" ReflectliteType.implements_) Tryz.func134 (by kernel_rfl) (by kernel_rfl) (by kernel_rfl) (by kernel_rfl)
 have h10:=@run_callFunc_extern Tryz.prog 49 _ ReflectliteType.typeOf Tryz.func49 (by kernel_rfl) (by kernel_rfl) (by kernel_rfl) (by kernel_rfl)
 have h35:=@run_callFunc_extern Tryz.prog 131 _ (ReflectliteType.relation "AssignableTo" ReflectliteType.assignableTo) Tryz.func131 (by kernel_rfl) (by kernel_rfl) (by kernel_rfl) (by kernel_rfl)
 have h11:=@run_callFunc_extern Tryz.prog 50 _ (ReflectliteValue.method (ReflectliteValue.valueError "reflectlite.Value.Elem" 0) ReflectliteValue.elem) Tryz.func50 (by kernel_rfl) (by kernel_rfl) (by kernel_rfl) (by kernel_rfl)
 have h12:=@run_callFunc_extern Tryz.prog 51 _ ReflectliteValue.set Tryz.func51 (by kernel_rfl) (by kernel_rfl) (by kernel_rfl) (by kernel_rfl)
 have tO:=AMy
 have mA:=ACo
 have a25:=AHU
 have v25:=ALr
 have f6:=AK3
 have f7:=ARc
 have mK:=AJL
 have mE:=AKA
 have mI:=ADV
 have k27:=AQo
 have k25:=AQM
 have e27:=ARY
 have i25:=AHZ
 have n8:=AO8 ⟨w.heap.size,0,none⟩ t ((w.alloc (.cells #[.pointer (some t)] 59)).alloc (.cells #[.pointer (some ⟨10,59,none⟩),.pointer (some ⟨w.heap.size,0,none⟩),.int .u64 150] 89)) (by simp)
 have hlt:0<w.heap.size:=by
  rcases Nat.lt_or_ge 0 w.heap.size with h | h
  ·exact h
  ·simp [World.cell?,Array.getElem?_eq_none h] at hg
 have hg2:((w.alloc (.cells #[.pointer (some t)] 59)).alloc (.cells #[.pointer (some ⟨10,59,none⟩),.pointer (some ⟨w.heap.size,0,none⟩),.int .u64 150] 89)).cell? ⟨0,0,none⟩=some (.iface 112 (.agg #[.pointer (some ⟨10,25,none⟩)])):=by
  rw [World.cell?_alloc_lt _ _ ⟨0,0,none⟩ (Nat.lt_of_lt_of_le hlt (by simp)),World.cell?_alloc_lt _ _ ⟨0,0,none⟩ hlt]; exact hg
 have htl:t.block<w.heap.size:=by
  rcases Nat.lt_or_ge t.block w.heap.size with h | h
  ·exact h
  ·simp [World.cell?,Array.getElem?_eq_none h] at ht0
 have el:=ANX ⟨w.heap.size,0,none⟩ t (((w.alloc (.cells #[.pointer (some t)] 59)).alloc (.cells #[.pointer (some ⟨10,59,none⟩),.pointer (some ⟨w.heap.size,0,none⟩),.int .u64 150] 89)).alloc (.cells #[.pointer (some ⟨10,59,none⟩),.pointer (some ⟨w.heap.size,0,none⟩),.int .u64 150] 89)) (by rw [World.cell?_alloc_lt _ _ ⟨w.heap.size,0,none⟩ (by simp; omega)]; simp)
 have st:=AUL t ⟨w.heap.size+1+1+1,0,none⟩ e old ((((w.alloc (.cells #[.pointer (some t)] 59)).alloc (.cells #[.pointer (some ⟨10,59,none⟩),.pointer (some ⟨w.heap.size,0,none⟩),.int .u64 150] 89)).alloc (.cells #[.pointer (some ⟨10,59,none⟩),.pointer (some ⟨w.heap.size,0,none⟩),.int .u64 150] 89)).alloc (.cells #[.int .i64 e] 31))
  (by rw [World.cell?_alloc_at _ _ _ _ (by simp)]; rfl)
  (by rw [World.cell?_alloc_lt _ _ t (by simp; omega),World.cell?_alloc_lt _ _ t (by simp; omega),World.cell?_alloc_lt _ _ t (by simp; omega),World.cell?_alloc_lt _ _ t htl]; exact ht0)
  (by rw [World.frozen?_alloc_old _ _ t (by simp; omega),World.frozen?_alloc_old _ _ t (by simp; omega),World.frozen?_alloc_old _ _ t (by simp; omega),World.frozen?_alloc_old _ _ t (Nat.ne_of_lt htl)]; exact hf0)
 go_enter Tryz.func20,Tryz.ntmps20
 go_wp2
 refine wp_loop_rounds 1 ?_
 rw [rounds_succ]
 go_wp2
 go_ret
 exact ⟨rfl,rfl⟩
end
section
variable [AtW]
set_option maxRecDepth 100000
def AIg:Atc := .seq (.ops [po_ 2 (.mov (ci_ 0))] [0])
 (.seq (.ops [so_ 3 (.alloc (.val (.int .i64 ((0:Nat):Int))))] [0,3])
 (.seq (.block 0 (.seq (.ops [mv_ 5 0,po_ 6 (.eqN 1 (.t 5) (.c .nilIface) false),mv_ 4 6] [0,3,4])
 (.cond (.t 4)
 (.seq (.ops [po_ 2 (.mov (ci_ 0))] [2])
  (.ret))
 (.seq (.ops [mv_ 8 0,po_ 9 (.iface 59 (.t 3)),so_ 10 (.call 20 [.t 8,.t 9]),mv_ 7 10] [3,7])
  (.cond (.t 7)
  (.seq (.ops [po_ 11 (.load false 1 (.t 3)),mv_ 2 11] [2])
   (.ret))
  (.skip))))))
 (.seq (.ops [po_ 2 (.mov (.c (.int .i64 (-1))))] [2])
 (.ret))))
def AIp:List VR:=[.tmp 2]
theorem AMn:Tryz.f10.body.bind (trC Tryz.prog Tryz.f10.ntmps)=some (er AIg):=by kernel_rfl
theorem ANg:trR Tryz.prog Tryz.f10.results.toList=some AIp:=by kernel_rfl
def AJ4:=As9 AIg.eq_1
theorem AKc {K:TV→Prop} {e:Env} {H:List Ob}:res AIp e H K=res [.tmp 2] e H K:=As8 rfl
def AFh:=(aI_ @AJ4 @AKc)
def AHn:=AxF 12 Tryz.func10 AMn ANg rfl
def ABn:Atc := .seq (.ops [mv_ 13 4,mv_ 14 3,po_ 15 (.idxA 1 (.t 13) (.t 14)),⟨none,.s (.store 1 (.t 15) (.c (.int .u8 ((71:Nat):Int)))),none⟩] [3,4])
 (.seq (.ops [mv_ 16 4,mv_ 17 3,po_ 18 (.bin 3 .add (.t 17) (ci_ 1)),po_ 19 (.idxA 1 (.t 16) (.t 18)),⟨none,.s (.store 1 (.t 19) (.c (.int .u8 ((72:Nat):Int)))),none⟩] [3,4])
 (.seq (.ops [mv_ 20 4,mv_ 21 3,po_ 22 (.slV 1 (.t 20) none (some (.t 21))),mv_ 2 22] [2])
 (.ret)))
def ACe:Atc := .seq (.ops [mv_ 10 4,mv_ 11 0,so_ 12 (.copy 1 (.t 10) (.t 11))] [3,4])
 ABn
def AB9:Atc := .seq (.ops [mv_ 7 3,po_ 8 (.bin 3 .add (.t 7) (ci_ 2)),so_ 9 (.mks 1 1 (.val (.int .u8 ((0:Nat):Int))) (.t 8) (.t 8)),mv_ 4 9] [0,3,4])
 ACe
def AB3:Atc := .seq (.ops [mv_ 5 0,po_ 6 (.lenV (.t 5)),mv_ 3 6] [0,3])
 AB9
def AGc:Atc := .seq (.ops [po_ 2 (.mov (.c (.slice none 0 0)))] [0])
 AB3
def AGd:List VR:=[.tmp 2]
theorem AJM:Tryz.f5.body.bind (trC Tryz.prog Tryz.f5.ntmps)=some (er AGc):=by kernel_rfl
theorem AJV:trR Tryz.prog Tryz.f5.results.toList=some AGd:=by kernel_rfl
def AFm:=As9 ABn.eq_1
def AFP:=As9 ACe.eq_1
def AFQ:=As9 AB9.eq_1
def AFf:=As9 AB3.eq_1
def AHF:=As9 AGc.eq_1
theorem AHC {K:TV→Prop} {e:Env} {H:List Ob}:res AGd e H K=res [.tmp 2] e H K:=As8 rfl
def AKq:=(aI_ (aI_ (aI_ @AFm @AFP) (aI_ @AFQ @AFf)) (aI_ @AHF @AHC))
def AIX:=AxF 23 Tryz.func5 AJM AJV rfl
def ABC:Atc := .seq (.seq (.ops [mv_ 36 8,mv_ 37 6,po_ 38 (.lenV (.t 37)),po_ 39 (.bin 3 .lss (.t 36) (.t 38))] [6,7,8,39])
 (.cond (.t 39)
 (.skip)
 (.exit 0)))
 (.seq (.block 1 (.ops [mv_ 42 6,mv_ 43 8,mv_ 44 6,mv_ 45 8,po_ 46 (.idxA 1 (.t 44) (.t 45)),po_ 47 (.load false 1 (.t 46)),po_ 48 (.bin 5 .xor (.t 47) (.c (.int .u8 ((85:Nat):Int)))),po_ 49 (.idxA 1 (.t 42) (.t 43)),⟨none,.s (.store 1 (.t 49) (.t 48)),none⟩] [6,7,8]))
 (.ops [mv_ 40 8,po_ 41 (.bin 3 .add (.t 40) (ci_ 1)),mv_ 8 41] [6,7,8]))
def ABB:Atc := .block 0 (.loop [6,7,8] ABC)
def ABs:Atc := .seq (.ops [mv_ 50 7,mv_ 4 50] [4])
 (.ret)
def ABy:Atc := .seq (.seq (.ops [po_ 8 (.mov (ci_ 0))] [6,7,8])
 ABB)
 ABs
def ABm:Atc := .seq (.ops [mv_ 20 7,mv_ 21 20,⟨some 22,.p (.mov (.t 6)),some ⟨21,true⟩⟩,⟨some 23,.p (.mov (.t 5)),some ⟨21,true⟩⟩,⟨some 24,.p (.idxA 1 (.t 22) (.t 23)),some ⟨21,true⟩⟩,⟨some 25,.p (.load false 1 (.t 24)),some ⟨21,true⟩⟩,⟨some 26,.p (.bin 5 .eql (.t 25) (.c (.int .u8 ((71:Nat):Int)))),some ⟨21,true⟩⟩,po_ 27 (.pick (.t 21) (.t 26) (.c (.bool false))),mv_ 28 27,⟨some 29,.p (.mov (.t 6)),some ⟨28,true⟩⟩,⟨some 30,.p (.mov (.t 5)),some ⟨28,true⟩⟩,⟨some 31,.p (.bin 3 .add (.t 30) (ci_ 1)),some ⟨28,true⟩⟩,⟨some 32,.p (.idxA 1 (.t 29) (.t 31)),some ⟨28,true⟩⟩,⟨some 33,.p (.load false 1 (.t 32)),some ⟨28,true⟩⟩,⟨some 34,.p (.bin 5 .eql (.t 33) (.c (.int .u8 ((72:Nat):Int)))),some ⟨28,true⟩⟩,po_ 35 (.pick (.t 28) (.t 34) (.c (.bool false))),mv_ 7 35] [6,7])
 ABy
def AB8:Atc := .seq (.ops [mv_ 15 6,mv_ 16 5,po_ 17 (.slV 1 (.t 15) none (some (.t 16))),mv_ 18 1,so_ 19 (.call 9 [.t 17,.t 18]),mv_ 7 19] [5,6,7])
 ABm
def ACc:Atc := .seq (.ops [mv_ 11 0,mv_ 12 5,po_ 13 (.bin 3 .add (.t 12) (ci_ 2)),po_ 14 (.slV 1 (.t 11) none (some (.t 13))),mv_ 6 14] [1,5,6])
 AB8
def ABv:Atc := .seq (.ops [mv_ 9 1,po_ 10 (.lenV (.t 9)),mv_ 5 10] [0,1,5])
 ACc
def AF5:Atc := .seq (.ops [po_ 4 (.mov (.c (.bool false)))] [0,1])
 ABv
def AGe:List VR:=[.tmp 4]
theorem AKu:Tryz.f7.body.bind (trC Tryz.prog Tryz.f7.ntmps)=some (er AF5):=by kernel_rfl
theorem AJC:trR Tryz.prog Tryz.f7.results.toList=some AGe:=by kernel_rfl
def AFw:=As9 ABC.eq_1
def AFT:=As9 ABB.eq_1
def AFu:=As9 ABs.eq_1
def AFD:=As9 ABy.eq_1
def AFM:=As9 ABm.eq_1
def AFU:=As9 AB8.eq_1
def AFS:=As9 ACc.eq_1
def AFj:=As9 ABv.eq_1
def AHQ:=As9 AF5.eq_1
theorem AHH {K:TV→Prop} {e:Env} {H:List Ob}:res AGe e H K=res [.tmp 4] e H K:=As8 rfl
def Ayh:=(aI_ (aI_ (aI_ (aI_ @AFw @AFT) (aI_ @AFu @AFD)) (aI_ (aI_ @AFM @AFU) (aI_ @AFS @AFj))) (aI_ @AHQ @AHH))
def AJq:=AxF 51 Tryz.func7 AKu AJC rfl
def ACW:Atc := .seq (.block 1 (.seq (.draw 4 [mv_ 17 0,mv_ 18 5,po_ 19 (.idxA 1 (.t 17) (.t 18)),po_ 20 (.load false 1 (.t 19)),mv_ 21 1,mv_ 22 5,po_ 23 (.idxA 1 (.t 21) (.t 22)),po_ 24 (.load false 1 (.t 23)),po_ 25 (.bin 5 .neq (.t 20) (.t 24))] [0,1,5,25])
 (.cond (.t 25)
 (.seq (.ops [po_ 4 (.mov (.c (.bool false)))] [4])
  (.ret))
 (.skip))))
 (.ops [mv_ 15 5,po_ 16 (.bin 3 .add (.t 15) (ci_ 1)),mv_ 5 16] [0,1,5])
def ACR:Atc := .seq (.seq (.ops [mv_ 11 5,mv_ 12 0,po_ 13 (.lenV (.t 12)),po_ 14 (.bin 3 .lss (.t 11) (.t 13))] [0,1,5,14])
 (.cond (.t 14)
 (.skip)
 (.exit 0)))
 ACW
def ACM:Atc := .block 0 (.loop [0,1,5] ACR)
def AC0:Atc := .seq (.ops [po_ 4 (.mov (.c (.bool true)))] [4])
 (.ret)
def AC5:Atc := .seq (.seq (.ops [po_ 5 (.mov (ci_ 0))] [0,1,5])
 ACM)
 AC0
def ACT:Atc := .seq (.seq (.ops [mv_ 6 0,po_ 7 (.lenV (.t 6)),mv_ 8 1,po_ 9 (.lenV (.t 8)),po_ 10 (.bin 3 .neq (.t 7) (.t 9))] [0,1,10])
 (.cond (.t 10)
 (.seq (.ops [po_ 4 (.mov (.c (.bool false)))] [4])
  (.ret))
 (.skip)))
 AC5
def AHw:Atc := .seq (.ops [po_ 4 (.mov (.c (.bool false)))] [0,1])
 ACT
def AGV:List VR:=[.tmp 4]
theorem AKW:Tryz.f9.body.bind (trC Tryz.prog Tryz.f9.ntmps)=some (er AHw):=by kernel_rfl
theorem AKG:trR Tryz.prog Tryz.f9.results.toList=some AGV:=by kernel_rfl
def AGD:=As9 ACW.eq_1
def AGy:=As9 ACR.eq_1
def AGF:=As9 ACM.eq_1
def AGn:=As9 AC0.eq_1
def AGq:=As9 AC5.eq_1
def AGl:=As9 ACT.eq_1
def AJl:=As9 AHw.eq_1
theorem AIW {K:TV→Prop} {e:Env} {H:List Ob}:res AGV e H K=res [.tmp 4] e H K:=As8 rfl
def AxY:=(aI_ (aI_ (aI_ @AGD @AGy) (aI_ @AGF @AGn)) (aI_ (aI_ @AGq @AGl) (aI_ @AJl @AIW)))
def AJW:=AxF 26 Tryz.func9 AKW AKG rfl
end
section
open Go.RowKit
variable [AtW] [At4]
theorem AAa.refl {F:Nat→Prop} {w:World} (h:∀ b,F b→b<w.heap.size):AAa F w F w:=⟨rfl,rfl,rfl,Nat.le_refl _,fun _ _=>rfl,fun _ h=>h,fun _ _ h=>h,h⟩
theorem AAa.alloc {F F':Nat→Prop} {w w':World} (h:AAa F w F' w') (o:Obj):AAa F w F' (w'.alloc o) :=
 ⟨h.os,h.tape,h.output,by have:=h.size; simp; omega,fun b hb=>(AuJ w' o (Nat.lt_of_lt_of_le hb h.size)).trans (h.same b hb),h.keepF,h.oldF,fun b hb=>by have:=h.ltF b hb; simp; omega⟩
abbrev eno (n:Int):TV := .ifc 31 (i64 n)
theorem AR7 {n:Int} {id ver:Nat} {p:List (Nat×Nat)} {x x':TV} {H:List Ob} {K:TV→List Ob→Prop} (ho:H[id]?=some (.obj ver x)) (hs2:ADt p x (i64 n)=some x') (hk:K (tb true) (H.set id (.obj ver x'))) :
  Ato Tryz.prog 20 [eno n,.ifc 59 (.op id ver p)] H K:=by
 intro β F w vs hs hv
 obtain ⟨u,us,rfl,h1,h2⟩:=AtX.cons.1 hv
 obtain ⟨u2,us2,rfl,h3,h4⟩:=AtX.cons.1 h2
 rw [AtX.nil] at h4; subst h4
 -- the two arguments
 have e1:u = .iface 31 (.int .i64 n):=by
  rcases h1 with h | h | ⟨xs0,h,rfl⟩
  ·cases h
  ·cases h
  ·rw [Atg] at h
   obtain ⟨v,rfl,vs,h,rfl⟩:=h
   rw [Atg] at h
   obtain ⟨rfl,_⟩:=h
   rfl
 obtain ⟨b,o,hbo,rfl⟩:∃ b o,β id ver=some (b,o)∧u2 = .iface 59 (.pointer (some ⟨b,o+Avh p,none⟩)):=by
  rcases h3 with h | h | ⟨xs0,h,rfl⟩
  ·cases h
  ·cases h
  ·rw [Atg] at h
   obtain ⟨v,rfl,vs,h,rfl⟩:=h
   rw [Atg] at h
   obtain ⟨_,b,o,hb,rfl⟩:=h
   exact ⟨b,o,hb,rfl⟩
 subst e1
 have hgl:=hs.glob.at At4.k
 have hg:w.cell? ⟨0,0,none⟩=some (.iface 112 (.agg #[.pointer (some ⟨10,25,none⟩)])):=hgl 0 _ rfl
 have hrow:∀ c w,Atg c w (i64 n) [.int .i64 n]:=fun c w=>by rw [Atg]; exact ⟨rfl,rfl⟩
 obtain ⟨_,_,ht⟩:=hs.store ho hbo hs2 (hrow _ _)
 obtain ⟨t1,t2⟩:=ht 0 (by simp)
 obtain ⟨old,hold⟩:=Option.isSome_iff_exists.1 t1
 refine (AYu n ⟨b,o+Avh p,none⟩ old w hg hold t2).mono ?_
 rintro e w' ⟨rfl,rfl⟩
 have hst:=((((AAa.refl (F:=F) hs.lt).alloc (.cells #[.pointer (some ⟨b,o+Avh p,none⟩)] 59)).alloc (.cells #[.pointer (some ⟨10,59,none⟩),.pointer (some ⟨w.heap.size,0,none⟩),.int .u64 150] 89)).alloc (.cells #[.pointer (some ⟨10,59,none⟩),.pointer (some ⟨w.heap.size,0,none⟩),.int .u64 150] 89)).alloc (.cells #[.int .i64 n] 31)
 obtain ⟨k1,k2,_⟩:=(hst.sim hs).store ho hbo hs2 (hrow _ _)
 exact ⟨_,tb true,β,_,F,rfl,hk,k1,hst.later.trans k2,Rep.of_val⟩
theorem A2j {n:Int}:Auy Tryz.prog 10 [eno n] (fun x=>x=i64 n):=by
 refine Ato.toPureV (AHn (by simp) ?_)
 simp -dsimp (disch:=first | assumption | omega) only [↓Ate,Ata,Atf,Atd,eq_self,Nat.reduceEqDiff,↓reduceIte,reduceCtorEq,↓AFh]
 refine AR7 (x:=i64 ((0:Nat):Int)) (x':=i64 n) rfl (by rw [ALI]; rfl) ?_
 simp -dsimp (disch:=first | assumption | omega) only [↓Ate,Ata,Atf,Atd,eq_self,Nat.reduceEqDiff,↓reduceIte,reduceCtorEq,↓AFh]
theorem AZB:Auy Tryz.prog 10 [.val .nilIface] (fun x=>x=i64 ((0:Nat):Int)):=by
 refine Ato.toPureV (AHn (by simp) ?_)
 simp -dsimp (disch:=first | assumption | omega) only [↓Ate,Ata,Atf,Atd,eq_self,Nat.reduceEqDiff,↓reduceIte,reduceCtorEq,↓AFh]
end
section
open Go.RowKit
variable [AtW] [Ati] [Atv] [Atx] [Atw] [AvU]
def hz (h:HZ):TV := .agg [i64 (h.at_:Int),i64 (h.to_:Int),.sl 2 (h.es.map ez)]
theorem AYl {h:HZ}:hz h = .agg [i64 (h.at_:Int),i64 (h.to_:Int),.sl 2 (h.es.map ez)]:=by unfold hz; rfl
theorem AMC {l:List HZ} {x:HZ}:l.map hz++[TV.agg [i64 (x.at_:Int),i64 (x.to_:Int),.sl 2 (x.es.map ez)]]=(l++[x]).map hz:=by simp [hz]
def RdA (p:List UInt8) (x:TV):Prop:=(∀ hs,ADR p 0 0=some hs→x = .tup [.sl 3 (hs.map hz),.val .nilIface])∧(ADR p 0 0=none→x = .tup [.val (.slice none 0 0),eno 90])
theorem AYL (p:List UInt8) (hp:p.length≤900000):Auy Tryz.prog 14 [slB p] (RdA p):=by
 refine Ato.toPureV (AJF (by simp) ?_)
 simp -dsimp (disch:=first | assumption | omega) only [↓Ate,Ata,Atf,Atd,eq_self,Nat.reduceEqDiff,↓reduceIte,reduceCtorEq,↓Avn]
 refine Av3 (fun q e H=>∃ (hs:List HZ) (r:List UInt8) (v en:Nat) (sh:Int),q=r.length∧ADR p 0 0=(ADR r en sh).map (hs ++ ·)∧hs.length+r.length≤p.length∧en≤1001000000 ∧ -((p.length:Int) - r.length)≤sh∧sh≤(p.length:Int) - r.length ∧
  e=[(4,.op 0 0 []),(5,.os 3 1 v [] 0 hs.length hs.length),(6,i64 (en:Int)),(7,i64 sh)]∧H=[.obj 0 (.agg [ts r,tb false]),.obj v (.arr hs.length 3 (hs.map hz))]) p.length ?_ ?_
 ·exact ⟨[],p,0,0,0,rfl,by cases ADR p 0 0<;>simp,by simp,by omega,by omega,by omega,rfl,rfl⟩
 ·rintro q e H ⟨hs,r,v,en,sh,rfl,hh,hlen,hen,hs0,hs1,rfl,rfl⟩
  by_cases hr:r=[]
  ·subst hr
   rw [AI3] at hh
   simp -dsimp (disch:=first | assumption | omega) only [↓Ate,Ata,Atf,Atd,eq_self,Nat.reduceEqDiff,↓reduceIte,↓Avn]
   refine ⟨fun hs' h => ?_,fun h => ?_⟩
   ·rw [hh] at h; cases h; simp
   ·rw [hh] at h; cases h
  ·simp -dsimp (disch:=first | assumption | omega) only [↓Ate,Ata,Atf,Atd,eq_self,Nat.reduceEqDiff,↓reduceIte,↓Avn,hr]
   refine AvI (AYb (s:=r) (id:=0) (v:=0) (by omega) rfl fun a b es r2 β' G hβ hv hr2 hes => ?_)
   have hC:∀ (o1 o2:Ob) (G:List Ob) (o:Ob),(o1::o2::(G++[o]))[G.length+1+1]?=some o:=fun o1 o2 G o=>by simp
   have hCs:∀ (o1 o2:Ob) (G:List Ob) (o Y:Ob),(o1::o2::(G++[o])).set (G.length+1+1) Y=o1::o2::(G++[Y]):=fun o1 o2 G o Y=>by simp
   cases hu:AxC r with
   | none =>
    rw [hu] at hβ
    obtain rfl:β'=true:=hβ
    rw [AGO hr hu] at hh
    simp -dsimp (disch:=first | assumption | omega) only [↓Ate,Ata,Atf,Atd,eq_self,Nat.reduceEqDiff,↓reduceIte,Nat.reduceAdd,↓Avn]
    exact ⟨fun hs' h=>(by rw [hh] at h; cases h),fun _=>rfl⟩
   | some t =>
    obtain ⟨x,r0⟩:=t
    obtain ⟨rfl,rfl,rfl,rfl⟩:=hv x r0 hu
    rw [hu] at hβ
    obtain rfl:β'=false:=hβ
    rw [ALj hr hu] at hh
    have hl:=AEf hu
    have hzn:=AOx x.es
    have hzm:=APf x.es
    by_cases hb1:(x.at_:Int)<(en:Int)
    ·have hn:ADR p 0 0=none:=by rw [hh,if_pos (.inl (by omega))]; rfl
     simp -dsimp (disch:=first | assumption | omega) only [↓Ate,Ata,Atf,Atd,eq_self,Nat.reduceEqDiff,↓reduceIte,Nat.reduceAdd,↓Avn,hC,hb1]
     exact ⟨fun hs' h=>(by rw [hn] at h; cases h),fun _=>rfl⟩
    by_cases hb2:(x.to_:Int)=(x.at_:Int)+sh
    case neg =>
     have hn:ADR p 0 0=none:=by rw [hh,if_pos (.inr hb2)]; rfl
     simp -dsimp (disch:=first | assumption | omega) only [↓Ate,Ata,Atf,Atd,eq_self,Nat.reduceEqDiff,↓reduceIte,Nat.reduceAdd,↓Avn,hC,hCs,hb1,hb2]
     exact ⟨fun hs' h=>(by rw [hn] at h; cases h),fun _=>rfl⟩
    rw [if_neg (by intro h; exact h.elim (fun h=>hb1 (by omega)) fun h=>h hb2)] at hh
    have hbt:((x.to_:Int)=(x.at_:Int)+sh)=True:=eq_true hb2
    simp -dsimp (disch:=first | assumption | omega) only [↓Ate,Ata,Atf,Atd,eq_self,Nat.reduceEqDiff,↓reduceIte,Nat.reduceAdd,↓Avn,hC,hCs,hb1,hbt]
    refine AvI ((AFa x.es (x.at_:Int) (x.to_:Int) (by omega)).calls (by rfl) fun y hy => ?_)
    subst hy
    have hD:∀ (G:List Ob) (a b:Ob),(G++[a]++[b])[G.length+1]?=some b:=fun G a b=>by simp
    have hl1:∀ (x:TV),[x].length=1:=fun x=>rfl
    simp -dsimp (disch:=first | assumption | omega) only [↓Ate,Ata,Atf,Atd,eq_self,Nat.reduceEqDiff,↓reduceIte,Nat.reduceAdd,Nat.reduceLeDiff,↓Avn,hC,hD,AGP,hl1,AMC]
    refine Au8 r2.length 2 (by omega) (by simp) rfl ?_ ⟨hs++[x],r2,v+1,x.at_+zN x.es,sh+zM x.es - zN x.es,rfl,?_,?_,by omega,by omega,by omega,?_,?_⟩
    ·show (AAN 2 _ && (AAN 2 _ && true))=true
     simp [AAN,Avj,Ayb]
    ·rw [hh]
     cases ADR r2 (x.at_+zN x.es) (sh+zM x.es - zN x.es)<;>simp
    ·simp; omega
    ·simp
     rfl
    ·simp
end
section
def AZf:Nat→List HZ→Prop
 | _,[]=>True
 | en,h::hs=>en≤h.at_∧AZf (h.at_+zN h.es) hs
theorem AL0 {g:EZ}:∀ {l:List EZ},g∈l→g.2.length≤(l.flatMap (·.2)).length
 | a::l,h=>by
  rw [List.flatMap_cons,List.length_append]
  rcases List.mem_cons.1 h with rfl | h
  ·omega
  ·have:=AL0 h; omega
theorem AGN:∀ (k:Nat) (s:List UInt8) (en:Nat) (sh:Int) (hs:List HZ),s.length≤k→ADR s en sh=some hs→AZf en hs∧(hs.flatMap (·.es)).length≤s.length∧hs.length≤s.length∧∀ h∈hs,h.at_<1000000000∧∀ e∈h.es,e.2.length≤s.length∧e.2≠[]∧(e.1=0∨e.1=1∨e.1=2)
 | k,s,en,sh,hs,hk,h=>by
  by_cases h0:s=[]
  ·subst h0
   rw [AI3] at h
   cases h
   exact ⟨trivial,by simp,by simp,by simp⟩
  ·cases hu:AxC s with
   | none=>rw [AGO h0 hu] at h; cases h
   | some t =>
    obtain ⟨x,r⟩:=t
    rw [ALj h0 hu] at h
    split at h
    ·cases h
    ·rename_i hc
     obtain ⟨gs,hg,rfl⟩:=Option.map_eq_some_iff.1 h
     have hl:=AEf hu
     match k,hk with
     | 0,hk=>exact absurd hl.1 (by omega)
     | k+1,hk =>
      obtain ⟨i1,i2,i3,i4⟩:=AGN k r _ _ gs (by omega) hg
      refine ⟨⟨by omega,i1⟩,?_,by simp; omega,?_⟩
      ·rw [List.flatMap_cons,List.length_append]; omega
      ·intro y hy
       rcases List.mem_cons.1 hy with rfl | hy
       ·refine ⟨hl.2.1,fun e he=>⟨?_,hl.2.2.2.2.2 e he⟩⟩
        have:=AL0 he
        omega
       ·obtain ⟨j1,j2⟩:=i4 y hy
        refine ⟨j1,fun e he => ?_⟩
        obtain ⟨a,b,c⟩:=j2 e he
        exact ⟨by omega,b,c⟩
theorem ALK {x:List (List UInt8)}:∀ {es:List EZ} {a a':Nat} {o:List (List UInt8)},apE x a es=some (o,a')→a'=a+zN es∧o.length≤es.length∧(a≤x.length→a'≤x.length)∧∀ l∈o,∃ e∈es,e.2=l
 | [],a,a',o,h=>by
  rw [apE] at h
  cases h
  exact ⟨by simp [zN],by simp,id,by simp⟩
 | e::es,a,a',o,h=>by
  rw [apE] at h
  split at h
  ·cases h
  ·rename_i hc
   obtain ⟨⟨o2,a2⟩,h2,h3⟩:=Option.map_eq_some_iff.1 h
   obtain ⟨j1,j2,j3,j4⟩:=ALK h2
   cases h3
   have hz:zN (e::es)=(if e.1=2 then 0 else 1)+zN es:=by
    have:=AOq [e] es
    rw [ANw] at this
    exact this
   refine ⟨?_,?_,?_,?_⟩
   ·simp only
    rw [hz,j1]
    by_cases h2:e.1=2
    ·simp [h2]
    ·simp [h2]; omega
   ·simp only
    split<;>simp<;>omega
   ·intro ha
    simp only
    refine j3 ?_
    by_cases h2:e.1=2
    ·simp [h2]; exact ha
    ·simp [h2]
     have hx:x[a]?=some e.2:=by
      by_cases hx:x[a]?=some e.2
      ·exact hx
      ·exact absurd ⟨h2,hx⟩ hc
     have:=(List.getElem?_eq_some_iff.1 hx).1
     omega
   ·intro l hl
    simp only at hl
    have tail:l∈o2→∃ e'∈e::es,e'.2=l:=fun hl=>by
     obtain ⟨e',he,rfl⟩:=j4 l hl
     exact ⟨e',List.mem_cons_of_mem _ he,rfl⟩
    split at hl
    ·rcases List.mem_cons.1 hl with rfl | hl
     ·exact ⟨e,by simp,rfl⟩
     ·exact tail hl
    ·exact tail hl
end
section
variable [AtW]
set_option maxRecDepth 100000
def ABT:Atc := .ops [mv_ 4 7] [3,4]
def ABP:Atc := .block 1 (.ops [po_ 8 (.load false 1 (.t 3)),mv_ 9 4,po_ 10 (.b2s (.t 9)),⟨some 11,.s (.bslice 1 1 (.val (.string (str []))) [⟨0,.t 10⟩]),none⟩,so_ 12 (.app 1 16 9 (.t 8) (.t 11)),⟨none,.s (.store 1 (.t 3) (.t 12)),none⟩] [])
def AB5:Atc := .seq (.ops [po_ 13 (.load false 1 (.t 3)),mv_ 2 13] [2])
 (.ret)
def AF8:Atc := .seq (.ops [po_ 2 (.mov (.c (.slice none 0 0)))] [0,2])
 (.seq (.ops [so_ 3 (.alloc (.val (.slice none 0 0)))] [0,2,3])
 (.seq (.seq (.ops [mv_ 5 0,so_ 6 (.call 29 [.t 5])] [2,3,6])
 (.block 0 (.ownB 3 [] 1 (.rfunc (.t 6) [7] ABT ABP))))
 AB5))
def AF7:List VR:=[.tmp 2]
theorem AJO:Tryz.f15.body.bind (trC Tryz.prog Tryz.f15.ntmps)=some (er AF8):=by kernel_rfl
theorem AJz:trR Tryz.prog Tryz.f15.results.toList=some AF7:=by kernel_rfl
def AFo:=As9 ABT.eq_1
def AFl:=As9 ABP.eq_1
def AFt:=As9 AB5.eq_1
def AHD:=As9 AF8.eq_1
theorem AHM {K:TV→Prop} {e:Env} {H:List Ob}:res AF7 e H K=res [.tmp 2] e H K:=As8 rfl
def ABU:=(aI_ (aI_ (aI_ @AFo @AFl) (aI_ @AFt @AHD)) @AHM)
def AIz:=AxF 14 Tryz.func15 AJO AJz rfl
def AA2:Atc := .seq (.ops [mv_ 24 3,mv_ 25 0,mv_ 26 4,mv_ 27 5,po_ 28 (.bin 3 .add (.t 27) (ci_ 1)),po_ 29 (.slV 1 (.t 25) (some (.t 26)) (some (.t 28))),po_ 30 (.b2s (.t 29)),⟨some 31,.s (.bslice 1 1 (.val (.string (str []))) [⟨0,.t 30⟩]),none⟩,so_ 32 (.app 1 16 9 (.t 24) (.t 31)),mv_ 3 32] [0,3,5])
 (.ops [mv_ 33 5,po_ 34 (.bin 3 .add (.t 33) (ci_ 1)),mv_ 4 34] [0,3,4,5])
def AAJ:Atc := .cond (.t 23)
 AA2
 (.skip)
def AAp:Atc := .seq (.block 1 (.seq (.ops [mv_ 12 0,mv_ 13 5,po_ 14 (.idxA 1 (.t 12) (.t 13)),po_ 15 (.load false 1 (.t 14)),po_ 16 (.bin 5 .eql (.t 15) (.c (.int .u8 ((10:Nat):Int)))),mv_ 17 16,⟨some 18,.p (.mov (.t 5)),some ⟨17,false⟩⟩,⟨some 19,.p (.bin 3 .add (.t 18) (ci_ 1)),some ⟨17,false⟩⟩,⟨some 20,.p (.mov (.t 0)),some ⟨17,false⟩⟩,⟨some 21,.p (.lenV (.t 20)),some ⟨17,false⟩⟩,⟨some 22,.p (.bin 3 .eql (.t 19) (.t 21)),some ⟨17,false⟩⟩,po_ 23 (.pick (.t 17) (.c (.bool true)) (.t 22))] [0,3,4,5,23])
 AAJ))
 (.ops [mv_ 10 5,po_ 11 (.bin 3 .add (.t 10) (ci_ 1)),mv_ 5 11] [0,3,4,5])
def AA8:Atc := .seq (.seq (.ops [mv_ 6 5,mv_ 7 0,po_ 8 (.lenV (.t 7)),po_ 9 (.bin 3 .lss (.t 6) (.t 8))] [0,3,4,5,9])
 (.cond (.t 9)
 (.skip)
 (.exit 0)))
 AAp
def AAq:Atc := .block 0 (.own 3 1 (.loop [0,3,4,5] AA8))
def AAD:Atc := .seq (.ops [mv_ 35 3,mv_ 2 35] [2])
 (.ret)
def AAo:Atc := .seq (.seq (.ops [po_ 5 (.mov (ci_ 0))] [0,3,4,5])
 AAq)
 AAD
def AAK:Atc := .seq (.ops [po_ 4 (.mov (ci_ 0))] [0,3,4])
 AAo
def AAE:Atc := .seq (.ops [po_ 3 (.mov (.c (.slice none 0 0)))] [0,3])
 AAK
def AD9:Atc := .seq (.ops [po_ 2 (.mov (.c (.slice none 0 0)))] [0])
 AAE
def AD6:List VR:=[.tmp 2]
theorem AJn:Tryz.f19.body.bind (trC Tryz.prog Tryz.f19.ntmps)=some (er AD9):=by kernel_rfl
theorem AIF:trR Tryz.prog Tryz.f19.results.toList=some AD6:=by kernel_rfl
def AEp:=As9 AA2.eq_1
def AEx:=As9 AAJ.eq_1
def ADY:=As9 AAp.eq_1
def AEi:=As9 AA8.eq_1
def ADT:=As9 AAq.eq_1
def AEU:=As9 AAD.eq_1
def AE6:=As9 AAo.eq_1
def AEZ:=As9 AAK.eq_1
def AEH:=As9 AAE.eq_1
def AHu:=As9 AD9.eq_1
theorem AG3 {K:TV→Prop} {e:Env} {H:List Ob}:res AD6 e H K=res [.tmp 2] e H K:=As8 rfl
def Avo:=(aI_ (aI_ (aI_ (aI_ @AEp @AEx) (aI_ @ADY @AEi)) (aI_ (aI_ @ADT @AEU) (aI_ @AE6 @AEZ))) (aI_ (aI_ @AEH @AHu) @AG3))
def AHT:=AxF 36 Tryz.func19 AJn AIF rfl
def AE0:Atc := .seq (.ops [so_ 1 (.box (.t 0)),po_ 2 (.mov (.c .nilFunc))] [1])
 (.seq (.ops [po_ 3 (.mkf (.func 43) [] [.t 1]),mv_ 2 3] [2])
 (.ret))
def AD1:List VR:=[.tmp 2]
theorem AIB:Tryz.f29.body.bind (trC Tryz.prog Tryz.f29.ntmps)=some (er AE0):=by kernel_rfl
theorem AI1:trR Tryz.prog Tryz.f29.results.toList=some AD1:=by kernel_rfl
def AG7:=As9 AE0.eq_1
theorem AG0 {K:TV→Prop} {e:Env} {H:List Ob}:res AD1 e H K=res [.tmp 2] e H K:=As8 rfl
def AI5:=(aI_ @AG7 @AG0)
def AH0:=AxF 4 Tryz.func29 AIB AI1 rfl
def Ayv:Atc := .draw 5 [po_ 12 (.load false 1 (.t 1)),mv_ 13 4,po_ 14 (.bin 3 .add (.t 13) (ci_ 1)),po_ 15 (.slV 1 (.t 12) none (some (.t 14))),po_ 16 (.load false 1 (.t 1)),mv_ 17 4,po_ 18 (.bin 3 .add (.t 17) (ci_ 1)),po_ 19 (.slV 1 (.t 16) (some (.t 18)) none),mv_ 3 15,⟨none,.s (.store 1 (.t 1) (.t 19)),none⟩] [0,1,3]
def Ayp:Atc := .cond (.t 11)
 Ayv
 (.ops [po_ 20 (.load false 1 (.t 1)),mv_ 3 20,⟨none,.s (.store 1 (.t 1) (.c (.slice none 0 0))),none⟩] [0,1,3])
def Ayt:Atc := .seq (.ops [mv_ 10 4,po_ 11 (.bin 3 .geq (.t 10) (ci_ 0))] [0,1,4,11])
 Ayp
def Ays:Atc := .seq (.seq (.ops [po_ 8 (.load false 1 (.t 1)),so_ 9 (.call 44 [.t 8,.c (.int .u8 ((10:Nat):Int))]),mv_ 4 9] [0,1,4])
 Ayt)
 (.seq (.ops [mv_ 21 0,mv_ 22 3,mv_ 23 3,po_ 24 (.lenV (.t 23)),mv_ 25 3,po_ 26 (.lenV (.t 25)),po_ 27 (.gen (.sl3 1) [.t 22,.c (.int .i64 ((0:Nat):Int)),.t 24,.t 26]),so_ 28 (.callv (.t 21) [.t 27]),po_ 29 (.un .not (.t 28))] [0,1,29])
 (.cond (.t 29)
 (.ret)
 (.skip)))
def AyA:Atc := .block 1 (.seq (.ops [po_ 3 (.mov (.c (.slice none 0 0)))] [0,1])
 Ays)
def Ayw:Atc := .seq (.seq (.ops [po_ 5 (.load false 1 (.t 1)),po_ 6 (.lenV (.t 5)),po_ 7 (.bin 3 .gtr (.t 6) (ci_ 0))] [0,1,7])
 (.cond (.t 7)
 (.skip)
 (.exit 0)))
 AyA
def ABo:Atc := .block 0 (.loop [0,1] Ayw)
def ABx:List VR:=[]
theorem AHc:Tryz.f43.body.bind (trC Tryz.prog Tryz.f43.ntmps)=some (er ABo):=by kernel_rfl
theorem AHp:trR Tryz.prog Tryz.f43.results.toList=some ABx:=by kernel_rfl
def ACw:=As9 Ayv.eq_1
def ACr:=As9 Ayp.eq_1
def ACF:=As9 Ayt.eq_1
def ACs:=As9 Ays.eq_1
def ACu:=As9 AyA.eq_1
def ACD:=As9 Ayw.eq_1
def AFq:=As9 ABo.eq_1
theorem AFg {K:TV→Prop} {e:Env} {H:List Ob}:res ABx e H K=res [] e H K:=As8 rfl
def Auf:=(aI_ (aI_ (aI_ @ACw @ACr) (aI_ @ACF @ACs)) (aI_ (aI_ @ACu @ACD) (aI_ @AFq @AFg)))
def AGI:=AxF 30 Tryz.func43 AHc AHp rfl
end
section
open Go.RowKit
variable [AtW]
set_option maxHeartbeats 2000000 in
set_option maxRecDepth 100000 in
theorem AGk (a:Addr) (n c:Nat) (xs:List Int) (cv:Int) (w:World) (hx:xs.length=n) (hc:∀ i,i<n→w.cell? (a.add i)=some (.int .u8 (xs.getD i 0))) :
  Calls Tryz.prog 44 #[.slice (some a) n c,.int .u8 cv] w fun e w'=>e = .returned (.int .i64 (Lib.indexByte (Lib.bytesOf xs) cv.toNat.toUInt8))∧w'=w:=by
 go_enter Tryz.func44,Tryz.ntmps44
 go_wp2
 rw [run_callFunc_extern Tryz.func57 (by kernel_rfl) (by kernel_rfl) (by kernel_rfl) (e:=Extern.BytealgIndexByte.indexByte) (by kernel_rfl),Lib.run_indexByteAt w a n c xs hx hc cv]
 simp only [Result.andThen]
 rw [Oper.upon_value]
 go_wp2
 go_ret
 exact ⟨rfl,rfl⟩
set_option maxHeartbeats 2000000 in
set_option maxRecDepth 100000 in
theorem AJm (n c:Nat) (cv:Int) (w:World) :
  Calls Tryz.prog 44 #[.slice none n c,.int .u8 cv] w fun e w'=>e = .returned (.int .i64 (-1))∧w'=w:=by
 go_enter Tryz.func44,Tryz.ntmps44
 go_wp2
 rw [run_callFunc_extern Tryz.func57 (by kernel_rfl) (by kernel_rfl) (by kernel_rfl) (e:=Extern.BytealgIndexByte.indexByte) (by kernel_rfl),Lib.run_indexByteNil w n c cv]
 simp only [Result.andThen]
 rw [Oper.upon_value]
 go_wp2
 go_ret
 exact ⟨rfl,rfl⟩
theorem Auy.indexByte (l:List UInt8) (c:UInt8):Auy Tryz.prog 44 [slB l,by8 c] (fun x=>x = .val (.int .i64 (Lib.indexByte l c))):=by
 intro β F w vs hF hv
 obtain ⟨v,us,rfl,h1,hv⟩:=AtX.cons.1 hv
 obtain ⟨v2,us,rfl,h2,hv⟩:=AtX.cons.1 hv
 rw [AtX.nil] at hv; subst hv
 have h2':v2 = .int .u8 c.toNat:=by
  have:=Rep.val.1 (Or.inl h2:Rep _ _ _ _); exact this
 subst h2'
 have hcv:((c.toNat:Int)).toNat.toUInt8=c:=by
  rw [Int.toNat_natCast]; simp
 have fin:∀ e w',(e=Ending.returned (.int .i64 (Lib.indexByte l c))∧w'=w)→∃ v x F',e = .returned v∧x = .val (.int .i64 (Lib.indexByte l c))∧Rep ⟨β,[],F'⟩ w' x v∧AAa F w F' w':=by
  rintro e w' ⟨rfl,rfl⟩
  exact ⟨_,_,F,rfl,rfl,Rep.of_val,⟨rfl,rfl,rfl,Nat.le_refl _,fun _ _=>rfl,fun _ h=>h,fun _ _ h=>h,hF.1⟩⟩
 have hr0:Rep ⟨β,[],F⟩ w (slB l) v:=Or.inl h1
 have hr:=hr0.sl
 obtain ⟨hw,hr⟩:=hr
 rcases hr with ⟨he,ad,cap,rfl,_⟩ | ⟨b,off,cap,us,rfl,h3,h4,h5,h6,h7⟩
 ·have hl:l=[]:=by simpa using he
  subst hl
  cases ad with
  | none=>exact (AJm 0 cap _ w).mono fun e w' h=>fin e w' h
  | some ad =>
   refine (AGk ad 0 cap [] c.toNat w rfl (fun i hi=>by omega)).mono fun e w' h=>fin e w' ?_
   exact h
 ·have hb:=AwN (fun y hy=>by obtain ⟨b,_,rfl⟩:=List.mem_map.1 hy; exact AMl b) h6
  rw [ACj] at hb
  refine (AGk ⟨b,off,none⟩ (l.map by8).length cap (l.map fun b:UInt8=>(b.toNat:Int)) c.toNat w (by simp) (fun i hi => ?_)).mono fun e w' h=>fin e w' ?_
  ·rw [AuL]
   have hi':i<l.length:=by simpa using hi
   refine h7 i _ ?_
   rw [hb,List.getElem?_map,List.getElem?_eq_getElem hi',List.getD_eq_getElem?_getD,List.getElem?_map,List.getElem?_eq_getElem hi']
   rfl
  ·rw [hcv] at h
   have:Lib.bytesOf (l.map fun b:UInt8=>(b.toNat:Int))=l:=by
    simp [Lib.bytesOf,List.map_map,Function.comp_def]
   rw [this] at h; exact h
end
section
open Go.RowKit
variable [AtW]
def ALU (r:List UInt8) (x:TV):Prop:=x=slB r∨(r=[]∧x = .val (.slice none 0 0))
theorem AMm {I:List UInt8→List Ob→Prop} {J:List Ob→Prop} {id sid L:Nat}
  (hI:∀ r H,I r H→L≤H.length∧r.length≤9223372036854775800∧∃ x,H[sid]?=some (.obj 0 x)∧ALU r x)
  (hy:∀ r H x,r≠[]→I r H→ALU (AG1 r).2 x→AAR Tryz.prog id 0 [slB (AG1 r).1] (H.set sid (.obj 0 x)) (fun y H'=>(y = .val (.bool true)∧I (AG1 r).2 H')∨(y = .val (.bool false)∧J H')))
  {r0:List UInt8} {H0:List Ob} (h0:I r0 H0) (hL:H0.length=L):Ato Tryz.prog 43 [.yl id 0,.op sid 0 []] H0 (fun _ H'=>I [] H'∨J H'):=by
 refine AGI (by simp) ?_
 simp -dsimp (disch:=first | assumption | omega) only [↓Ate,Atf,Atd,Nat.reduceAdd,↓Auf]
 refine Av3 (fun m e H=>∃ r,m=r.length∧e=[(0,.yl id 0),(1,.op sid 0 [])]∧I r H) r0.length ?_ ?_
 ·exact ⟨r0,rfl,rfl,h0⟩
 ·rintro n e H ⟨r,rfl,rfl,hr⟩
  obtain ⟨h1,h2,x,hx,hrx⟩:=hI r H hr
  have hlt:sid<H.length:=(List.getElem?_eq_some_iff.1 hx).1
  rcases hrx with rfl | ⟨rfl,rfl⟩
  ·simp -dsimp (disch:=first | assumption | omega) only [↓Ate,Ata,Atf,Atd,eq_self,Nat.reduceEqDiff,↓reduceIte,reduceCtorEq,↓Auf,hx]
   refine AHh (fun h => ?_) (fun h => ?_)
   ·simp -dsimp (disch:=first | assumption | omega) only [↓Ate,Ata,Atf,Atd,eq_self,Nat.reduceEqDiff,↓reduceIte,reduceCtorEq,↓Auf,hx]
    have hne:r≠[]:=by rintro rfl; simp at h
    have hlen:=ALA r hne
    refine (Auy.indexByte r 10).calls rfl ?_
    rintro x rfl
    have fin:∀ x',ALU (AG1 r).2 x'→AAR Tryz.prog id 0 [slB (AG1 r).1] (H.set sid (.obj 0 x')) (fun y H'=>(y = .val (.bool true)∧I (AG1 r).2 H')∨(y = .val (.bool false)∧J H')):=fun x' hx'=>hy r H x' hne hr hx'
    rcases ANb r with ⟨k,k1,k2,k3⟩ | ⟨k1,k3⟩
    ·rw [k1]
     simp -dsimp (disch:=first | assumption | omega) only [↓Ate,Ata,Atf,Atd,eq_self,Nat.reduceEqDiff,↓reduceIte,reduceCtorEq,Nat.reduceLeDiff,↓Auf,hx]
     rw [List.take_take,Nat.min_self]
     rw [k3] at fin hlen
     refine AAR.mono (fin _ (.inl rfl)) ?_
     rintro y H' (⟨rfl,hI'⟩ | ⟨rfl,hJ⟩)
     ·simp -dsimp (disch:=first | assumption | omega) only [↓Ate,Ata,Atf,Atd,eq_self,Nat.reduceEqDiff,↓reduceIte,reduceCtorEq]
      exact Auj _ hlen (by have:=(hI _ _ hI').1; omega) ⟨_,rfl,rfl,hI'⟩
     ·simp -dsimp (disch:=first | assumption | omega) only [↓Ate,Ata,Atf,Atd,eq_self,Nat.reduceEqDiff,↓reduceIte,reduceCtorEq,↓Auf]
      exact .inr hJ
    ·rw [k1]
     simp -dsimp (disch:=first | assumption | omega) only [↓Ate,Ata,Atf,Atd,eq_self,Nat.reduceEqDiff,↓reduceIte,reduceCtorEq,↓Auf,hx]
     rw [k3] at fin hlen
     refine AAR.mono (fin _ (.inr ⟨rfl,rfl⟩)) ?_
     rintro y H' (⟨rfl,hI'⟩ | ⟨rfl,hJ⟩)
     ·simp -dsimp (disch:=first | assumption | omega) only [↓Ate,Ata,Atf,Atd,eq_self,Nat.reduceEqDiff,↓reduceIte,reduceCtorEq]
      exact Auj _ hlen (by have:=(hI _ _ hI').1; omega) ⟨_,rfl,rfl,hI'⟩
     ·simp -dsimp (disch:=first | assumption | omega) only [↓Ate,Ata,Atf,Atd,eq_self,Nat.reduceEqDiff,↓reduceIte,reduceCtorEq,↓Auf]
      exact .inr hJ
   ·have hr0:r=[]:=by cases r with
     | nil=>rfl
     | cons b r=>simp at h
    subst hr0
    simp -dsimp (disch:=first | assumption | omega) only [↓Ate,↓Auf]
    exact .inl hr
  ·simp -dsimp (disch:=first | assumption | omega) only [↓Ate,Ata,Atf,Atd,eq_self,Nat.reduceLT,Nat.reduceEqDiff,↓reduceIte,reduceCtorEq,↓Auf,hx]
   exact .inl hr
end
section
open Go.RowKit
variable [AtW]
theorem AxO {a b:TV}:(List.replicate 1 a).set 0 b=[b]:=by simp
theorem AwA {l:List (List UInt8)} {x:List UInt8}:l.map ts++[TV.val (.string (str x))]=(l++[x]).map ts:=by simp
theorem AMR (l:List UInt8) (H:List Ob):Ato Tryz.prog 29 [slB l] H (fun x H'=>x = .fn (.func 43) [] [.op H.length 0 []]∧H'=H++[.obj 0 (slB l)]):=by
 refine AH0 (by simp) ?_
 simp -dsimp (disch:=first | assumption | omega) only [↓Ate,Ata,Atf,Atd,eq_self,Nat.reduceEqDiff,↓reduceIte,↓AI5]
theorem ANv (l:List UInt8) (hl:l.length≤4000):ABD Tryz.prog 15 [slB l] (fun x=>x=slS (Atp l)):=by
 refine Ato.toFreshV (AIz (by simp) ?_)
 simp -dsimp (disch:=first | assumption | omega) only [↓Ate,Ata,Atf,Atd,eq_self,Nat.reduceEqDiff,↓reduceIte,reduceCtorEq,↓ABU]
 refine Ato.mono (AMR l _) ?_
 rintro x H' ⟨rfl,rfl⟩
 simp -dsimp (disch:=first | assumption | omega) only [↓Ate,Ata,Atf,Atd,eq_self,Nat.reduceEqDiff,↓reduceIte,Nat.reduceAdd,reduceCtorEq]
 refine AUq rfl (by kernel_rfl) rfl rfl ?_
 intro N fn ca cb hc
 refine Ato.mono (AMm (id:=3) (sid:=1) (L:=4) (r0:=l) (J:=fun _=>False) (I:=fun r H=>∃ (done:List (List UInt8)) (v:Nat) (x:TV),ALU r x∧Atp l=done++Atp r∧done.length+r.length≤l.length ∧
  H=[.obj 0 (.os 1 2 v [] 0 done.length done.length),.obj 0 x,.obj v (.arr done.length 1 (done.map ts)),.lp .ready none fn N [(2,.val (.slice none 0 0)),(3,.op 0 0 []),(6,.fn (.func 43) [] [.op 1 0 []])] [7] ca cb]) ?_ ?_ ?_ rfl) ?_
 ·rintro r H ⟨done,v,x,h1,h2,h3,rfl⟩
  exact ⟨by simp,by omega,x,rfl,h1⟩
 ·rintro r H x hne ⟨done,v,x0,h1,h2,h3,rfl⟩ hx
  have hlen:=ALA r hne
  have hcons:=AKa r hne
  refine APU rfl hc rfl rfl rfl ?_
  simp -dsimp (disch:=first | assumption | omega) only [↓Ate,Ata,Atf,Atd,eq_self,Nat.reduceEqDiff,↓reduceIte,Nat.reduceAdd,Nat.reduceLeDiff,↓ABU,AKF,AxO,AwA,AVt]
  refine ⟨4,⟨by omega,by omega,.inr ?_⟩,.inl ⟨done++[(AG1 r).1],v+1,x,hx,?_,?_,?_⟩⟩
  ·rcases hx with rfl | ⟨_,rfl⟩<;>rfl
  ·rw [h2,hcons,List.append_assoc,List.singleton_append]
  ·rw [List.length_append,List.length_singleton]; omega
  ·simp
 ·exact ⟨[],0,slB l,.inl rfl,rfl,by simp,rfl⟩
 ·rintro _ H' (⟨done,v,x,h1,h2,h3,rfl⟩ | h)
  ·simp -dsimp (disch:=first | assumption | omega) only [↓Ate,Ata,Atf,Atd,eq_self,Nat.reduceEqDiff,↓reduceIte,Nat.reduceAdd,↓ABU,AIl]
   rw [h2]; simp [Atp,lin]
  ·exact h.elim
end
section
open Go.RowKit
variable [AtW]
theorem AQU {x y:List (List UInt8)} {a0 i nh v:Nat} {hsT:TV} {es:List EZ} {o1:Ob} {ho1:AAN 2 o1=true} {hT:Avj 2 hsT=true} (hx:x.length≤4000) (hes:es.length≤900000) (hy:y.length≤2000000) (ha:a0≤x.length) {Q:VEx→Env→List Ob→Prop}
  (hno:apE x a0 es=none→∀ H',Q .ret [(4,.val (.slice none 0 0)),(5,eno 91)] H')
  (hyes:∀ o z a' v' G T,apE x a0 es=some (o,a')→z=y++o→Q .nor ([(8,slS x),(9,.os 1 0 v' [] 0 z.length z.length),(10,i64 (a':Int)),(27,hsT),(28,i64 (nh:Int)),(29,i64 (i:Int))]++G) (.obj v' (.arr z.length 1 (z.map ts))::T)) :
  vwp Tryz.prog AxL Q [(8,slS x),(9,.os 1 0 v [] 0 y.length y.length),(10,i64 (a0:Int)),(27,hsT),(28,i64 (nh:Int)),(29,i64 (i:Int)),(49,.sl 2 (es.map ez)),(50,i64 (es.length:Int)),(51,i64 ((0:Nat):Int))] [.obj v (.arr y.length 1 (y.map ts)),o1]:=by
 simp -dsimp (disch:=first | assumption | omega) only [↓Ate,Ata,Atd,eq_self,Nat.reduceEqDiff,↓reduceIte,↓AtN]
 refine Av3 (fun q e H=>∃ (k a v:Nat) (o z:List (List UInt8)),q=es.length - k∧k≤es.length∧a≤x.length∧o.length≤k∧z=y++o∧apE x a0 es=(apE x a (es.drop k)).map (fun p=>(o++p.1,p.2)) ∧
  e=[(8,slS x),(9,.os 1 0 v [] 0 z.length z.length),(10,i64 (a:Int)),(27,hsT),(28,i64 (nh:Int)),(29,i64 (i:Int)),(49,.sl 2 (es.map ez)),(50,i64 (es.length:Int)),(51,i64 (k:Int))]∧H=[.obj v (.arr z.length 1 (z.map ts)),o1]) es.length ?_ ?_
 ·exact ⟨0,a0,v,[],y,rfl,by omega,ha,by simp,by simp,by cases h:apE x a0 es<;>simp [h],rfl,rfl⟩
 ·rintro q e H ⟨k,a,v,o,z,rfl,hk,hax,hok,hz,hE,rfl,rfl⟩
  have hzl:z.length=y.length+o.length:=by rw [hz,List.length_append]
  by_cases h:k<es.length
  case neg =>
   have hke:es.drop k=[]:=List.drop_eq_nil_of_le (by omega)
   rw [hke,apE] at hE
   clear hzl
   simp -dsimp (disch:=first | assumption | omega) only [↓Ate,Ata,Atf,Atd,eq_self,Nat.reduceEqDiff,↓reduceIte,↓AtN]
   exact hyes o z a v [_,_,_,_] [_] (by rw [hE]; simp) hz
  obtain ⟨g,hg⟩:∃ g,es[k]?=some g:=⟨_,List.getElem?_eq_getElem h⟩
  have hdr:es.drop k=g::es.drop (k+1):=by
   obtain ⟨_,rfl⟩:=List.getElem?_eq_some_iff.1 hg
   exact List.drop_eq_getElem_cons h
  rw [hdr,apE] at hE
  have hb2:∀ (l:List (List UInt8)) (v:Nat),ABN 2 [.obj v (.arr l.length 1 (l.map ts)),o1]=true:=fun l v=>by
   show (AAN 2 _ && (AAN 2 o1 && true))=true
   rw [ho1]; rfl
  have hbE:∀ (n m a k:Nat),AD3 2 (forget [8,9,10,27,28,29,49,50,51] [(8,slS x),(9,.os 1 0 n [] 0 m m),(10,i64 (a:Int)),(27,hsT),(28,i64 (nh:Int)),(29,i64 (i:Int)),(49,.sl 2 (es.map ez)),(50,i64 (es.length:Int)),(51,i64 (k:Int))])=true:=fun n m a k=>by
   show (Avj 2 _ && (Avj 2 _ && (Avj 2 _ && (Avj 2 hsT && _))))=true
   rw [hT]; rfl
  have elz:z.length+1=(z++[g.2]).length:=by simp
  have hz2:z++[g.2]=y++(o++[g.2]):=by rw [hz,List.append_assoc]
  clear hzl
  have hzb:z.length≤2900000:=by rw [hz,List.length_append]; omega
  by_cases h2:g.1=2
  ·rw [if_neg (fun c=>c.1 h2)] at hE
   have h1:¬ g.1=1:=by omega
   have hE2:apE x a0 es=(apE x a (es.drop (k+1))).map (fun p=>(o++[g.2]++p.1,p.2)):=by
    rw [hE,if_neg (fun c=>c h2),Option.map_map]
    congr 1
    funext p
    simp [h1]
   simp -dsimp (disch:=first | assumption | omega) only [↓Ate,Ata,Atf,Atd,eq_self,Nat.reduceEqDiff,↓reduceIte,Nat.reduceAdd,Nat.reduceLeDiff,↓AtN,hg,ADZ,h2,AxO,AwA]
   rw [elz]
   exact Au8 (es.length - (k+1)) 2 (by omega) (by simp) (hbE _ _ _ _) (hb2 _ _) ⟨k+1,a,v+1,o++[g.2],z++[g.2],rfl,by omega,by omega,by simp; omega,hz2,hE2,rfl,rfl⟩
  ·by_cases hxa:x[a]?=some g.2
   case neg =>
    rw [if_pos ⟨h2,hxa⟩] at hE
    have hnone:apE x a0 es=none:=by rw [hE]; rfl
    by_cases hal:a=x.length
    ·simp -dsimp (disch:=first | assumption | omega) only [↓Ate,Ata,Atf,Atd,eq_self,Nat.reduceEqDiff,↓reduceIte,Nat.reduceAdd,↓AtN,hg,ADZ,hal]
     exact hno hnone _
    ·obtain ⟨w,hw⟩:∃ w,x[a]?=some w:=⟨_,List.getElem?_eq_getElem (by omega)⟩
     have hwg:¬ w=g.2:=fun e=>hxa (by rw [hw,e])
     simp -dsimp (disch:=first | assumption | omega) only [↓Ate,Ata,Atf,Atd,eq_self,Nat.reduceEqDiff,↓reduceIte,Nat.reduceAdd,↓AtN,hg,ADZ,hal,hw,hwg]
     exact hno hnone _
   rw [if_neg (fun c=>c.2 hxa)] at hE
   have hal2:=(List.getElem?_eq_some_iff.1 hxa).1
   have hal:¬ a=x.length:=by omega
   by_cases h1:g.1=1
   ·have hE2:apE x a0 es=(apE x (a+1) (es.drop (k+1))).map (fun p=>(o++p.1,p.2)):=by
     rw [hE,if_pos h2,Option.map_map]
     congr 1
     funext p
     simp [h1]
    simp -dsimp (disch:=first | assumption | omega) only [↓Ate,Ata,Atf,Atd,eq_self,Nat.reduceEqDiff,↓reduceIte,Nat.reduceAdd,↓AtN,hg,ADZ,h1,hal,hxa]
    exact Au8 (es.length - (k+1)) 2 (by omega) (by simp) (hbE _ _ _ _) (hb2 _ _) ⟨k+1,a+1,v,o,z,rfl,by omega,by omega,by omega,hz,hE2,rfl,rfl⟩
   ·have hE2:apE x a0 es=(apE x (a+1) (es.drop (k+1))).map (fun p=>(o++[g.2]++p.1,p.2)):=by
     rw [hE,if_pos h2,Option.map_map]
     congr 1
     funext p
     simp [h1]
    simp -dsimp (disch:=first | assumption | omega) only [↓Ate,Ata,Atf,Atd,eq_self,Nat.reduceEqDiff,↓reduceIte,Nat.reduceAdd,Nat.reduceLeDiff,↓AtN,hg,ADZ,hal,hxa,AxO,AwA]
    rw [elz]
    exact Au8 (es.length - (k+1)) 2 (by omega) (by simp) (hbE _ _ _ _) (hb2 _ _) ⟨k+1,a+1,v+1,o++[g.2],z++[g.2],rfl,by omega,by omega,by simp; omega,hz2,hE2,rfl,rfl⟩
end
section
open Go.RowKit
variable [AtW]
theorem AKn {c:Ctx} {w:World}:∀ {ws:List (List UInt8)} {vs:List Value},Ath c w (ws.map ts) vs→vs=ws.map fun x=>Value.string (str x)
 | [],vs,h=>by rw [List.map_nil,Ath] at h; exact h
 | x::ws,vs,h=>by
  rw [List.map_cons,Ath] at h
  obtain ⟨a,b,rfl,h1,h2⟩:=h
  rw [Atg] at h1
  rw [h1.1,AKn h2]; rfl
theorem AJA:∀ ws:List (List UInt8),Lib.join ws []=ws.flatten
 | []=>rfl
 | [x]=>by rw [Lib.join_one]; simp
 | x::y::r=>by
  have ih:=AJA (y::r)
  unfold Lib.join at ih ⊢
  simp only [List.intercalate,List.intersperse,List.flatten_cons] at ih ⊢
  rw [ih]
  simp
theorem AZq (ws:List (List UInt8)) (hlen:ws.flatten.length≤100000000000000) (hn:ws.length≤1000000):Auy Tryz.prog 17 [.sl 1 (ws.map ts),ts []] (fun r=>r=ts ws.flatten):=by
 intro β F w vs hF hv
 obtain ⟨v1,us,rfl,h1,hv⟩:=AtX.cons.1 hv
 obtain ⟨v2,us,rfl,h2,hv⟩:=AtX.cons.1 hv
 rw [AtX.nil] at hv; subst hv
 obtain rfl:=Rep.val.1 (Or.inl h2:Rep _ _ _ _)
 obtain ⟨_,h | ⟨b,off,cap,xs,rfl,hcap,hcap2,hFb,hx,hcell⟩⟩:=Rep.sl (Or.inl h1:Rep _ _ _ _)
 ·obtain ⟨h0,a,cap,rfl,_⟩:=h
  have hw0:ws=[]:=List.map_eq_nil_iff.1 h0
  subst hw0
  refine (Tryz.strings_Join_none a cap (str []) w).mono ?_
  rintro e w' ⟨rfl,rfl⟩
  have hb:=AFz (B:=w'.heap.size) w'
  exact ⟨_,_,F,rfl,rfl,Rep.of_val,⟨hb.os,hb.tape,hb.output,hb.size,hb.block,fun _ h=>h,fun _ _ h=>h,fun b hb'=>Nat.lt_of_lt_of_le (hF.1 b hb') hb.size⟩⟩
 have hxs:=AKn hx
 subst hxs
 have hmap:(ws.map str).map (·.data.toList)=ws:=by
  rw [List.map_map]
  conv=>rhs; rw [←List.map_id ws]
  exact List.map_congr_left fun x _=>ANj x
 have hlen2:(ws.map ts).length=(ws.map str).length:=by simp
 have hj:Lib.join ((ws.map str).map (·.data.toList)) (str []).data.toList=ws.flatten:=by rw [hmap,ANj,AJA]
 rw [hlen2] at hcap ⊢
 have hc:=Tryz.strings_Join b off cap (ws.map str) (str []) w (fun j x hjx=>by
  rw [List.getElem?_map] at hjx
  obtain ⟨y,hy,rfl⟩:=Option.map_eq_some_iff.1 hjx
  exact hcell j _ (by rw [List.getElem?_map,hy]; rfl)) (hF.1 b hFb) (by simp; omega) hcap (by rw [hj]; omega)
 rw [hj] at hc
 refine hc.mono ?_
 rintro e w' ⟨rfl,hb⟩
 exact ⟨_,_,F,rfl,rfl,Rep.of_val,⟨hb.os,hb.tape,hb.output,hb.size,hb.block,fun _ h=>h,fun _ _ h=>h,fun b hb'=>Nat.lt_of_lt_of_le (hF.1 b hb') hb.size⟩⟩
end
section
open Go.RowKit
variable [AtW] [Ati] [Atv] [Atx] [Atw] [AvU]
def ApA (a p:List UInt8) (x:TV):Prop:=(∀ b,AuU a p = .yes b→x = .tup [slB b,.val .nilIface])∧(∀ e,AuU a p = .no e→x = .tup [.val (.slice none 0 0),eno (e:Int)])
theorem AVT (l:List UInt8):Lib.hasSuffix l [10]=decide (l.getLast?=some 10):=by
 unfold Lib.hasSuffix
 by_cases h:l=[]
 ·subst h; rfl
 ·rw [List.getLast?_eq_some_getLast h]
  conv=>lhs; rw [←List.dropLast_concat_getLast h]
  by_cases e:l.getLast h=10
  ·rw [e]; simp
  ·have:([10]:List UInt8).isSuffixOf (l.dropLast++[l.getLast h])=false:=by
    rw [Bool.eq_false_iff]
    intro hs
    rw [List.isSuffixOf_iff_suffix] at hs
    obtain ⟨t,ht⟩:=hs
    have:=congrArg List.getLast? ht
    simp at this
    exact e this.symm
   rw [this]; simp [e]
theorem ATT {HH:List Ob} {k ver:Nat} {y:List (List UInt8)} (h:HH[k]?=some (.obj ver (.arr y.length 1 (y.map ts)))):ATi HH [.os 1 k ver [] 0 y.length y.length,ts []]=some [.sl 1 (y.map ts),ts []]:=by
 unfold ATi
 simp -dsimp (disch:=first | assumption | omega | (simp only [Atb];try omega)) only [Atd,eq_self,↓reduceIte,AyB,Avs,h,AuO,Ax2]
theorem AVU {a p:List UInt8} {y:List (List UInt8)} {v:Nat} {T:List Ob} (hy:y.length≤1000000) (hm:∀ l∈y,l.length≤900000) (hfl:y.flatten.length≤100000000000000) (hyes:AKL y→AuU a p = .yes y.flatten) (hno:¬ AKL y→AuU a p = .no 91) :
  vwp Tryz.prog Axw (AHv ABt fun x H'=>At3 (frs H' x) (ApA a p)) [(9,.os 1 0 v [] 0 y.length y.length)] (.obj v (.arr y.length 1 (y.map ts))::T):=by
 simp -dsimp (disch:=first | assumption | omega) only [↓Ate,Ata,Atf,Atd,eq_self,Nat.reduceEqDiff,↓reduceIte,↓AtN]
 refine Av3 (fun q e H=>∃ i:Nat,q=y.length - i∧i≤y.length∧(∀ j l,j<i→y[j]?=some l→j+1<y.length→l.getLast?=some 10)∧e=[(9,.os 1 0 v [] 0 y.length y.length),(89,.os 1 0 v [] 0 y.length y.length),(90,i64 (y.length:Int)),(91,i64 (i:Int))]∧H = .obj v (.arr y.length 1 (y.map ts))::T) y.length ?_ ?_
 ·exact ⟨0,rfl,by omega,by omega,rfl,rfl⟩
 ·rintro q e H ⟨i,rfl,hi,hpre,rfl,rfl⟩
  by_cases h:i<y.length
  case neg =>
   have hen:AKL y:=fun j l hl hj=>hpre j l (by omega) hl hj
   have hk:=hyes hen
   simp -dsimp (disch:=first | assumption | omega) only [↓Ate,Ata,Atf,Atd,eq_self,Nat.reduceEqDiff,↓reduceIte,↓AtN]
   refine AvI ((AZq y hfl (by omega)).lends (ATT rfl) fun x hx=>⟨by rw [hx]; rfl,?_⟩)
   subst hx
   have hgt:∀ (o1 o:Ob),(o1::(T++[o]))[T.length+1]?=some o:=fun o1 o=>by simp
   simp -dsimp (disch:=first | assumption | omega | (simp only [Atb];try omega)) only [↓Ate,Ata,Atf,Atd,eq_self,Nat.reduceEqDiff,↓reduceIte,AtF,hgt,↓AyD]
   exact ⟨fun b h=>(by rw [hk] at h; cases h; rfl),fun e h=>(by rw [hk] at h; cases h)⟩
  obtain ⟨w,hw⟩:∃ w,y[i]?=some w:=⟨_,List.getElem?_eq_getElem h⟩
  have hwl:=hm w (List.mem_of_getElem? hw)
  have nxt:(i+1<y.length→w.getLast?=some 10)→∀ j l,j<i+1→y[j]?=some l→j+1<y.length→l.getLast?=some 10:=fun hq j l hj hl hj2=>by
   by_cases hji:j=i
   ·subst hji; rw [hw] at hl; cases hl; exact hq hj2
   ·exact hpre j l (by omega) hl hj2
  by_cases h1:i+1<y.length
  case neg =>
   simp -dsimp (disch:=first | assumption | omega) only [↓Ate,Ata,Atf,Atd,eq_self,Nat.reduceEqDiff,↓reduceIte,↓AtN,hw,h1]
   exact Auj (y.length - (i+1)) (by omega) (by simp) ⟨i+1,rfl,by omega,nxt (fun hq=>absurd hq h1),rfl,rfl⟩
  ·simp -dsimp (disch:=first | assumption | omega) only [↓Ate,Ata,Atf,Atd,eq_self,Nat.reduceEqDiff,↓reduceIte,↓AtN,hw,h1]
   refine AvI ((AMw w [10] (by omega)).calls rfl fun r hr => ?_)
   subst hr
   rw [AVT]
   by_cases h2:w.getLast?=some 10
   ·simp -dsimp (disch:=first | assumption | omega) only [↓Ate,Ata,Atf,Atd,eq_self,Nat.reduceEqDiff,↓reduceIte,h2]
    exact Auj (y.length - (i+1)) (by omega) (by simp) ⟨i+1,rfl,by omega,nxt (fun _=>h2),rfl,rfl⟩
   ·have hn:=hno fun hen=>h2 (hen i w hw h1)
    simp -dsimp (disch:=first | assumption | omega) only [↓Ate,Ata,Atf,Atd,eq_self,Nat.reduceEqDiff,↓reduceIte,↓AtN,h2]
    exact ⟨fun b h=>by rw [hn] at h; (cases h),fun e h=>by rw [hn] at h; (cases h); rfl⟩
theorem AG4 {l:List UInt8}:∀ {ls:List (List UInt8)},l∈ls→l.length≤ls.flatten.length
 | a::ls,h=>by
  rw [List.flatten_cons,List.length_append]
  rcases List.mem_cons.1 h with rfl | h
  ·omega
  ·have:=AG4 h; omega
theorem ATp {g:HZ}:∀ {hs:List HZ},g∈hs→g.es.length≤(hs.flatMap (·.es)).length
 | a::hs,h=>by
  rw [List.flatMap_cons,List.length_append]
  rcases List.mem_cons.1 h with rfl | h
  ·omega
  ·have:=ATp h; omega
theorem AL4 {M:Nat}:∀ {ls:List (List UInt8)},(∀ l∈ls,l.length≤M)→ls.flatten.length≤ls.length*M
 | [],_=>by simp
 | a::ls,h=>by
  rw [List.flatten_cons,List.length_append,List.length_cons,Nat.add_mul]
  have:=AL4 (ls:=ls) fun l hl=>h l (by simp [hl])
  have:=h a (by simp)
  omega
theorem AWo (a p:List UInt8) (ha:a.length≤4000) (hp:p.length≤900000):ABD Tryz.prog 6 [slB a,slB p] (ApA a p):=by
 refine Ato.toFreshV (AII (by simp) ?_)
 simp -dsimp (disch:=first | assumption | omega) only [↓Ate,Ata,Atf,Atd,eq_self,Nat.reduceEqDiff,↓reduceIte,Nat.reduceAdd,reduceCtorEq,↓AtN]
 refine AvI ((AYL p hp).calls rfl fun x hx => ?_)
 cases hh:ADR p 0 0 with
 | none =>
  rw [hx.2 hh]
  have hn:AuU a p = .no 90:=by unfold AuU; rw [hh]
  simp -dsimp (disch:=first | assumption | omega) only [↓Ate,Ata,Atf,Atd,eq_self,Nat.reduceEqDiff,↓reduceIte,reduceCtorEq,↓AtN]
  exact ⟨fun b h=>by rw [hn] at h; (cases h),fun e h=>by rw [hn] at h; (cases h); rfl⟩
 | some hs =>
  rw [hx.1 hs hh]
  clear hx
  obtain ⟨o1,o2,o3,o4⟩:=AGN _ p 0 0 hs (Nat.le_refl _) hh
  have hxl:=AyF a
  simp -dsimp (disch:=first | assumption | omega) only [↓Ate,Ata,Atf,Atd,eq_self,Nat.reduceEqDiff,↓reduceIte,reduceCtorEq,↓AtN]
  refine AvI ((ANv a ha).lends rfl fun x hx => ?_)
  subst hx
  simp -dsimp (disch:=first | assumption | omega) only [↓Ate,Ata,Atf,Atd,eq_self,Nat.reduceEqDiff,↓reduceIte,reduceCtorEq,↓AtN]
  refine Av3 (fun q e H=>∃ (i at_ v:Nat) (z:List (List UInt8)),q=hs.length - i∧i≤hs.length∧at_≤(Atp a).length∧apH (Atp a) 0 hs=(apH (Atp a) at_ (hs.drop i)).map (z ++ ·)∧AZf at_ (hs.drop i)∧z.length+((hs.drop i).flatMap (·.es)).length≤at_+p.length∧(∀ l∈z,l.length≤900000) ∧
   e=[(8,slS (Atp a)),(9,.os 1 0 v [] 0 z.length z.length),(10,i64 (at_:Int)),(27,.sl 3 (hs.map hz)),(28,i64 (hs.length:Int)),(29,i64 (i:Int))]∧H=[.obj v (.arr z.length 1 (z.map ts))]) hs.length ?_ ?_
  ·exact ⟨0,0,0,[],rfl,by omega,by omega,by rw [List.drop_zero]; simp,o1,by simpa using o2,by simp,rfl,rfl⟩
  ·rintro q e H ⟨i,at_,v,z,rfl,hi,hat,hA,hO,hZ,hM,rfl,rfl⟩
   by_cases h:i<hs.length
   case neg =>
    have hd:hs.drop i=[]:=List.drop_eq_nil_of_le (by omega)
    rw [hd,apH] at hA
    rw [hd] at hZ
    simp only [List.flatMap_nil,List.length_nil] at hZ
    have hdl:((Atp a).drop at_).length=(Atp a).length - at_:=List.length_drop ..
    have hzl:z.length+((Atp a).length - at_)=(z++(Atp a).drop at_).length:=by rw [List.length_append,hdl]
    have hmap:z.map ts++((Atp a).drop at_).map ts=(z++(Atp a).drop at_).map ts:=by rw [List.map_append]
    simp -dsimp (disch:=first | assumption | omega | (simp only [Atb];try omega)) only [↓Ate,Ata,Atf,Atd,eq_self,Nat.reduceEqDiff,↓reduceIte,↓AvJ,↓AvR,↓Ayg,hdl]
    rw [hzl,hmap]
    have hyl:(z++(Atp a).drop at_).length≤904000:=by rw [←hzl]; omega
    have hyM:∀ l∈z++(Atp a).drop at_,l.length≤900000:=fun l hl=>by
     rcases List.mem_append.1 hl with hl | hl
     ·exact hM l hl
     ·have:=AG4 (List.mem_of_mem_drop hl)
      rw [AvA] at this
      omega
    have hfl:=AL4 hyM
    refine AVU (by omega) hyM (by omega) (fun hen => ?_) (fun hen => ?_)
    ·unfold AuU; rw [hh]; simp only; rw [hA]; simp only [Option.map_some]; rw [if_pos hen]
    ·unfold AuU; rw [hh]; simp only; rw [hA]; simp only [Option.map_some]; rw [if_neg hen]
   ·obtain ⟨g,hg⟩:∃ g,hs[i]?=some g:=⟨_,List.getElem?_eq_getElem h⟩
    have hdr:hs.drop i=g::hs.drop (i+1):=by
     obtain ⟨_,rfl⟩:=List.getElem?_eq_some_iff.1 hg
     exact List.drop_eq_getElem_cons h
    rw [hdr,apH] at hA
    rw [hdr] at hO hZ
    obtain ⟨q1,q2⟩:=hO
    by_cases hgt:(Atp a).length<g.at_
    ·rw [if_pos hgt] at hA
     have hn:AuU a p = .no 91:=by unfold AuU; rw [hh]; simp only; rw [hA]; rfl
     simp -dsimp (disch:=first | assumption | omega) only [↓Ate,Ata,Atf,Atd,eq_self,Nat.reduceEqDiff,↓reduceIte,Nat.reduceAdd,↓AtN,hg,AYl,hgt]
     exact ⟨fun b h=>by rw [hn] at h; (cases h),fun e h=>by rw [hn] at h; (cases h); rfl⟩
    ·rw [if_neg hgt] at hA
     have hml:(List.take (g.at_ - at_) (List.drop at_ (Atp a))).length=g.at_ - at_:=by simp; omega
     have hzl:z.length+(g.at_ - at_)=(z++List.take (g.at_ - at_) (List.drop at_ (Atp a))).length:=by rw [List.length_append,hml]
     simp -dsimp (disch:=first | assumption | omega | (simp only [Atb];try omega)) only [↓Ate,Ata,Atf,Atd,eq_self,Nat.reduceEqDiff,↓reduceIte,Nat.reduceAdd,↓AvJ,↓AvR,↓Ayx,↓Ax9,↓Ayk,↓Azu,↓AyR,hg,AYl,hgt,hml]
     have hmap:z.map ts++(List.take (g.at_ - at_) (List.drop at_ (Atp a))).map ts=(z++List.take (g.at_ - at_) (List.drop at_ (Atp a))).map ts:=by rw [List.map_append]
     have hgm:g∈hs:=List.mem_of_getElem? hg
     have hge:=ATp hgm
     rw [List.flatMap_cons,List.length_append] at hZ
     have hmd:(List.take g.at_ (Atp a)).drop at_=List.take (g.at_ - at_) (List.drop at_ (Atp a)):=List.drop_take ..
     rw [hmd] at hA
     rw [hzl,hmap]
     generalize hmid:List.take (g.at_ - at_) (List.drop at_ (Atp a))=mid at *
     have hmM:∀ l∈mid,l.length≤900000:=fun l hl=>by
      rw [←hmid] at hl
      have:=AG4 (List.mem_of_mem_drop (List.mem_of_mem_take hl))
      rw [AvA] at this
      omega
     refine AQU (ho1:=rfl) (hT:=rfl) (by omega) (by omega) (by rw [List.length_append]; omega) (by omega) (fun hnone H' => ?_) (fun o zz a' v' G T hE hzz => ?_)
     ·rw [hnone] at hA
      have hn:AuU a p = .no 91:=by unfold AuU; rw [hh]; simp only; rw [hA]; rfl
      simp -dsimp (disch:=first | assumption | omega | (simp only [Atb];try omega)) only [↓Ate,Ata,Atf,Atd,eq_self,Nat.reduceEqDiff,↓reduceIte,↓AyD]
      exact ⟨fun b h=>(by rw [hn] at h; cases h),fun e h=>(by rw [hn] at h; cases h; rfl)⟩
     ·obtain ⟨e1,e2,e3,e4⟩:=ALK hE
      rw [hE] at hA
      simp -dsimp (disch:=first | assumption | omega | (simp only [Atb];try omega)) only [↓Ate,Ata,Atf,Atd,eq_self,Nat.reduceEqDiff,↓reduceIte,↓Ayn]
      have hzzl:zz.length=z.length+mid.length+o.length:=by rw [hzz,List.length_append,List.length_append]
      refine Au8 (hs.length - (i+1)) 1 (by omega) (by simp) rfl rfl ⟨i+1,a',v',zz,rfl,by omega,e3 (by omega),?_,by rw [e1]; exact q2,by omega,?_,rfl,rfl⟩
      ·rw [hA]
       simp only
       rw [Option.map_map]
       congr 1
       funext w
       simp [hzz]
      ·intro l hl
       rw [hzz] at hl
       rcases List.mem_append.1 hl with hl | hl
       ·rcases List.mem_append.1 hl with hl | hl
        ·exact hM l hl
        ·exact hmM l hl
       ·obtain ⟨e,he,rfl⟩:=e4 l hl
        have:=((o4 g hgm).2 e he).1
        omega
end
section
open Go.RowKit
variable [AtW]
theorem ALN {w s:List UInt8} (h:w.length≤s.length):(s.take w.length=w)↔w.isPrefixOf s=true:=by
 rw [List.isPrefixOf_iff_prefix,List.prefix_iff_eq_take]
 exact eq_comm
theorem AIb (s w:List UInt8) (hs:s.length≤1000000) (hw:w.length≤1000):Auy Tryz.prog 47 [ts s,ts w] (fun x=>x = .tup [ts (AwK w s),tb (Lib.hasPrefix s w)]):=by
 refine Ato.toPureV (AJd (by simp) ?_)
 unfold AwK Lib.trimPrefix Lib.hasPrefix
 by_cases h:s.length<w.length
 ·have hp:w.isPrefixOf s=false:=by
   rw [Bool.eq_false_iff,ne_eq,List.isPrefixOf_iff_prefix]
   intro h2
   have:=h2.length_le
   omega
  rw [hp]
  simp -dsimp (disch:=first | assumption | omega) only [↓Ate,Ata,Atf,Atd,eq_self,Nat.reduceEqDiff,↓reduceIte,Nat.reduceAdd,reduceCtorEq,AtF,h,↓ABu]
 ·have hle:w.length≤s.length:=by omega
  by_cases h2:s.take w.length=w
  ·rw [(ALN hle).1 h2]
   simp -dsimp (disch:=first | assumption | omega) only [↓Ate,Ata,Atf,Atd,eq_self,Nat.reduceEqDiff,↓reduceIte,Nat.reduceAdd,reduceCtorEq,AtF,h,hle,h2,↓ABu]
  ·have hp:w.isPrefixOf s=false:=Bool.eq_false_iff.2 fun h3=>h2 ((ALN hle).2 h3)
   rw [hp]
   simp -dsimp (disch:=first | assumption | omega) only [↓Ate,Ata,Atf,Atd,eq_self,Nat.reduceEqDiff,↓reduceIte,Nat.reduceAdd,reduceCtorEq,AtF,h,hle,h2,↓ABu]
theorem ANr:∀ (s:List UInt8) (k:Nat),k≤s.length→(s.take k).all AtU=true→(∀ c,s[k]?=some c→AtU c=false)→s.takeWhile AtU=s.take k∧s.dropWhile AtU=s.drop k
 | [],k,h,_,_=>by
  have:k=0:=by simpa using h
  subst this; exact ⟨rfl,rfl⟩
 | b::s,0,_,_,h2=>by
  have:=h2 b rfl
  simp [this]
 | b::s,k+1,h,h1,h2=>by
  rw [List.take_succ_cons,List.all_cons,Bool.and_eq_true] at h1
  obtain ⟨i1,i2⟩:=ANr s k (by simpa using h) h1.2 (fun c hc=>h2 c (by simpa using hc))
  simp [h1.1,i1,i2]
theorem ANK:∀ (s:List UInt8) (k:Nat),k≤s.length→(s.take k).all AtU=true→k≤(s.takeWhile AtU).length
 | [],k,h,_=>by simpa using h
 | b::s,0,_,_=>by simp
 | b::s,k+1,h,h1=>by
  rw [List.take_succ_cons,List.all_cons,Bool.and_eq_true] at h1
  have:=ANK s k (by simpa using h) h1.2
  simp [h1.1]; omega
def AVE (s:List UInt8) (x:TV):Prop:=∃ (n:Nat) (r:List UInt8),x = .tup [i64 (n:Int),ts r,tb (AzQ s).isSome]∧(∀ N r0,AzQ s=some (N,r0)→n=N∧r=r0)∧n<10000000000∧r.length≤s.length
theorem AXP {s:List UInt8} {k:Nat} (hk:k≤s.length) (hall:(s.take k).all AtU=true) (h10:k≤10) (hst:k<10→∀ c,s[k]?=some c→AtU c=false) {b:Bool} (hb:b=true↔(0<k∧k<10∧(k=1∨s[0]?≠some 48))):AVE s (.tup [i64 ((Axz 0 (s.take k):Nat):Int),ts (s.drop k),tb b]):=by
 have hl:(s.take k).length=k:=by simp; omega
 by_cases h:k<10
 ·obtain ⟨e1,e2⟩:=ANr s k hk hall (hst h)
  have hc:ABp (s.take k)↔b=true:=by
   rw [hb]
   unfold ABp
   rw [hl]
   constructor
   ·rintro ⟨c1,c2,c3⟩
    have hk0:0<k:=by
     rcases Nat.eq_zero_or_pos k with rfl | h0
     ·exact absurd rfl c1
     ·exact h0
    refine ⟨hk0,h,c3.imp id fun c3 => ?_⟩
    rwa [List.getElem?_take_of_lt hk0] at c3
   ·rintro ⟨c1,c2,c3⟩
    refine ⟨fun e => ?_,by omega,c3.imp id fun c3 => ?_⟩
    ·rw [e] at hl; simp at hl; omega
    ·rwa [List.getElem?_take_of_lt c1]
  have hn:AzQ s=if b=true then some (Axz 0 (s.take k),s.drop k) else none:=by
   unfold AzQ
   rw [e1,e2]
   by_cases hh:b=true
   ·rw [if_pos hh,if_pos (hc.2 hh)]
   ·rw [if_neg hh,if_neg (fun c=>hh (hc.1 c))]
  refine ⟨Axz 0 (s.take k),s.drop k,?_,?_,AIP (by rw [hl]; exact h10) hall,by simp⟩
  ·rw [hn]; cases b<;>rfl
  ·intro N r0 he
   rw [hn] at he
   split at he
   ·cases he; exact ⟨rfl,rfl⟩
   ·cases he
 ·have hn:AzQ s=none:=by
   unfold AzQ
   rw [if_neg]
   rintro ⟨_,c,_⟩
   have:=ANK s k hk hall
   omega
  have hbf:b=false:=Bool.eq_false_iff.2 fun e=>h (hb.1 e).2.1
  subst hbf
  refine ⟨Axz 0 (s.take k),s.drop k,?_,?_,AIP (by rw [hl]; exact h10) hall,by simp⟩
  ·rw [hn]; rfl
  ·intro N r0 he; rw [hn] at he; cases he
theorem AGU (s:List UInt8) (hs:s.length≤1000000):Auy Tryz.prog 48 [ts s] (AVE s):=by
 refine Ato.toPureV (AGX (by simp) ?_)
 simp -dsimp (disch:=first | assumption | omega) only [↓Ate,Ata,Atf,Atd,eq_self,Nat.reduceEqDiff,↓reduceIte,reduceCtorEq,↓AHX]
 refine Av3 (fun q e H=>∃ (i:Nat),q=s.length - i∧i≤s.length∧i≤10∧(s.take i).all AtU=true∧e=[(0,ts s),(5,i64 (i:Int)),(6,i64 ((Axz 0 (s.take i):Nat):Int))]∧H=[]) s.length ?_ ?_
 ·exact ⟨0,rfl,by omega,by omega,rfl,by rw [List.take_zero,ACm]; rfl,rfl⟩
 ·rintro q e H ⟨i,rfl,hi,hi10,hall,rfl,rfl⟩
  have hlt:=AIP (l:=s.take i) (by simp; omega) hall
  have stop:(i<10→∀ c,s[i]?=some c→AtU c=false)→∀ qq:TV,vwp Tryz.prog AwG (AHv AyI fun x H'=>At3 (Avs H' (AMb H' 2) x) (AVE s)) [(0,ts s),(5,i64 (i:Int)),(6,i64 ((Axz 0 (s.take i):Nat):Int)),(26,qq)] []:=by
   intro hst qq
   have hf:=fun b=>AXP hi hall hi10 hst (b:=b)
   generalize Axz 0 (s.take i)=n at *
   by_cases h0:0<i
   case neg =>
    have h00:i=0:=by omega
    subst h00
    have hg:=hf false (by simp)
    simp -dsimp (disch:=first | assumption | omega | (simp only [Atb];try omega)) only [↓Ate,Ata,Atf,Atd,eq_self,Nat.reduceLT,Nat.reduceEqDiff,↓reduceIte,reduceCtorEq,AtF,↓Aum,↓AuF]
    exact hg
   have hs0:s[0]?=some s[0]:=List.getElem?_eq_getElem (by omega)
   generalize s[0]=z at *
   have hz:=z.toNat_lt
   by_cases h1:i<10
   case neg =>
    have hg:=hf false (by simp [h1])
    simp -dsimp (disch:=first | assumption | omega | (simp only [Atb];try omega)) only [↓Ate,Ata,Atf,Atd,eq_self,Nat.reduceEqDiff,↓reduceIte,reduceCtorEq,AtF,↓Aum,↓AuF]
    exact hg
   by_cases h2:i=1
   ·have hg:=hf true (by simp [h2])
    have h2t:(i=1)=True:=eq_true h2
    simp -dsimp (disch:=first | assumption | omega | (simp only [Atb];try omega)) only [↓Ate,Ata,Atf,Atd,eq_self,Nat.reduceEqDiff,↓reduceIte,reduceCtorEq,AtF,h2t,↓Aum,↓AuF]
    exact hg
   by_cases h3:z.toNat=48
   ·have hz48:z=48:=UInt8.toNat_inj.1 h3
    have hg:=hf false (by simp [h2,hs0,hz48])
    simp -dsimp (disch:=first | assumption | omega | (simp only [Atb];try omega)) only [↓Ate,Ata,Atf,Atd,eq_self,Nat.reduceEqDiff,↓reduceIte,reduceCtorEq,AtF,hs0,h2,h3,↓Aum,↓AuF]
    exact hg
   ·have hz48:¬ z=48:=fun e=>h3 (by rw [e]; rfl)
    have hg:=hf true (by simp [h0,h1,hs0,hz48])
    simp -dsimp (disch:=first | assumption | omega | (simp only [Atb];try omega)) only [↓Ate,Ata,Atf,Atd,eq_self,Nat.reduceEqDiff,↓reduceIte,reduceCtorEq,AtF,hs0,h2,h3,↓Aum,↓AuF]
    exact hg
  by_cases h:i<s.length
  ·have hg:s[i]?=some s[i]:=List.getElem?_eq_getElem h
   have hsucc:=List.take_succ_eq_append_getElem h
   generalize s[i]=b at *
   have hb:=b.toNat_lt
   have hnum:Axz 0 (s.take (i+1))=Axz 0 (s.take i)*10+(b.toNat - 48):=by rw [hsucc,AIV,AGQ]
   have hall2:AtU b=true→(s.take (i+1)).all AtU=true:=fun hd=>by rw [hsucc,List.all_append,hall]; simp [hd]
   generalize Axz 0 (s.take i)=n at *
   by_cases d1:b.toNat<48
   ·have st:=stop (fun _ c hc=>by rw [hg] at hc; cases hc; unfold AtU; simp; omega)
    simp -dsimp (disch:=first | assumption | omega | (simp only [Atb];try omega)) only [↓Ate,Ata,Atf,Atd,eq_self,Nat.reduceEqDiff,↓reduceIte,reduceCtorEq,↓Aul,AtF,hg]
    exact st _
   by_cases d2:b.toNat > 57
   ·have st:=stop (fun _ c hc=>by rw [hg] at hc; cases hc; unfold AtU; simp; omega)
    simp -dsimp (disch:=first | assumption | omega | (simp only [Atb];try omega)) only [↓Ate,Ata,Atf,Atd,eq_self,Nat.reduceEqDiff,↓reduceIte,reduceCtorEq,↓Aul,AtF,hg]
    exact st _
   by_cases d3:i<10
   ·have hwr:IntKind.i64.wrap ((b.toNat - 48:Nat):Int)=((b.toNat - 48:Nat):Int):=Avq (by omega) (by omega)
    simp -dsimp (disch:=first | assumption | omega | (simp only [Atb];try omega)) only [↓Ate,Ata,Atf,Atd,eq_self,Nat.reduceEqDiff,↓reduceIte,reduceCtorEq,↓Aul,AtF,hg,AWn,hwr]
    refine Auj (s.length - (i+1)) (by omega) (by simp) ⟨i+1,rfl,by omega,by omega,hall2 (by unfold AtU; simp; omega),?_,rfl⟩
    rw [hnum]
    rfl
   ·have st:=stop (fun h=>absurd h d3)
    simp -dsimp (disch:=first | assumption | omega | (simp only [Atb];try omega)) only [↓Ate,Ata,Atf,Atd,eq_self,Nat.reduceEqDiff,↓reduceIte,reduceCtorEq,↓Aul,AtF,hg]
    exact st _
  ·have st:=stop (fun _ c hc=>by rw [List.getElem?_eq_none (by omega)] at hc; cases hc)
   generalize Axz 0 (s.take i)=n at *
   simp -dsimp (disch:=first | assumption | omega | (simp only [Atb];try omega)) only [↓Ate,Ata,Atf,Atd,eq_self,Nat.reduceEqDiff,↓reduceIte,reduceCtorEq,↓Aul,AtF]
   exact st _
end
section
open Go.RowKit
variable [AtW]
variable {P:Program}
def ALw (P:Program) (f:FuncId) (args:List TV) (R:TV→Prop) (RP:Value→Prop):Prop :=
 ∀ (β:Nat→Nat→Option (Nat×Nat)) (F:Nat→Prop) (w:World) (vs:List Value),((∀ b,F b→b<w.heap.size)∧Av0 F w)→AtX ⟨β,[],F⟩ w args vs →
  Calls P f vs.toArray w fun e w'=>∃ F',AAa F w F' w'∧((∃ v x,e = .returned v∧R x∧Rep ⟨β,[],fun b=>F' b∧w.heap.size≤b⟩ w' x v)∨∃ u,e = .panicked [{ v:=u,recovered:=false }]∧RP u)
theorem ALw.mono {f:FuncId} {args:List TV} {R R':TV→Prop} {RP RP':Value→Prop} (h:ALw P f args R RP) (hr:∀ x,R x→R' x) (hp:∀ u,RP u→RP' u):ALw P f args R' RP' :=
 fun β F w vs hF hv=>(h β F w vs hF hv).mono fun _ _ ⟨F',h1,h2⟩=>⟨F',h1,h2.imp (fun ⟨v,x,k1,k2,k3⟩=>⟨v,x,k1,hr _ k2,k3⟩) fun ⟨u,k1,k2⟩=>⟨u,k1,hp _ k2⟩⟩
def AXh (x x':TV):Prop:=∀ (c:Ctx) (w:World) (v:Value),ALS c w x v→ALS c w x' v
inductive AJI:List TV→List TV→Prop
 | nil:AJI [] []
 | cons {x x':TV} {xs xs':List TV}:AXh x x'→AJI xs xs'→AJI (x::xs) (x'::xs')
theorem AJI.rep {c:Ctx} {w:World} {xs xs':List TV} (h:AJI xs xs'):∀ {vs:List Value},AtX c w xs vs→AtX c w xs' vs:=by
 induction h with
 | nil=>exact fun h=>h
 | cons h1 h2 ih =>
  intro vs hv
  rw [AtX.cons] at hv ⊢
  obtain ⟨u,us,rfl,k1,k2⟩:=hv
  exact ⟨u,us,rfl,h1 _ _ _ k1,ih k2⟩
theorem AL1 {k:Nat}:AXh (.val (.slice none 0 0)) (.sl k []):=fun c w v h=>by
 have hv:v = .slice none 0 0:=by
  have h':Rep c w (.val (.slice none 0 0)) v := .inl h
  rw [Rep.val] at h'; exact h'
 subst hv
 refine .inr (.inr ⟨[.slice none 0 0],?_,rfl⟩)
 rw [Atg]
 exact ⟨by simp,.inl ⟨rfl,none,0,rfl,by omega⟩⟩
theorem Auy.argL {f:FuncId} {args args':List TV} {R:TV→Prop} (h:Auy P f args' R) (hc:AJI args args'):Auy P f args R :=
 fun β F w vs hF hv=>h β F w vs hF (hc.rep hv)
theorem AJI.tup {xs xs':List TV} (h:AJI xs xs'):∀ (c:Ctx) (w:World) (v:Value),Rep c w (.tup xs) v→Rep c w (.tup xs') v:=by
 rintro c w v ((h1 | h1 | ⟨us,h1,_⟩) | ⟨ys,vs,h1,h2,h3⟩)
 ·cases h1
 ·cases h1
 ·rw [Atg] at h1; exact h1.elim
 ·cases h1
  exact .inr ⟨xs',vs,rfl,h2,h.rep h3⟩
end
section
open Go.RowKit
variable [AtW]
def headD (s:List UInt8):Option (Nat×Nat×Nat×Nat×List UInt8):=match Aur wAt s with
 | none=>none
 | some r=>match AzQ r with
  | none=>none
  | some (a,r)=>match Aur [44] r with
   | none=>none
   | some r=>match AzQ r with
    | none=>none
    | some (n,r)=>match Aur wPl r with
     | none=>none
     | some r=>match AzQ r with
      | none=>none
      | some (b,r)=>match Aur [44] r with
       | none=>none
       | some r=>match AzQ r with
        | none=>none
        | some (m,r)=>match Aur wEn r with
         | none=>none
         | some r=>some (a,n,b,m,r)
theorem AUk (s:List UInt8):ABi s=match headD s with
  | none=>none
  | some (a,n,b,m,r)=>if (0<n∧a=0)∨(0<m∧b=0) then none else some ((if 0<n then a - 1 else a,n),(if 0<m then b - 1 else b,m),r):=by
 unfold ABi headD AH5
 cases Aur wAt s with
 | none=>rfl
 | some r1 =>
  simp only
  cases AzQ r1 with
  | none=>rfl
  | some t =>
   obtain ⟨a,r2⟩:=t
   simp only
   cases Aur [44] r2 with
   | none=>rfl
   | some r3 =>
    simp only
    cases AzQ r3 with
    | none=>rfl
    | some t =>
     obtain ⟨n,r4⟩:=t
     simp only
     cases hw:Aur wPl r4 with
     | none =>
      by_cases hn:0<n
      ·by_cases ha:a=0
       ·simp [hn,ha]
       ·simp [hn,ha,hw]
      ·simp [hn,hw]
     | some r5 =>
      cases h5:AzQ r5 with
      | none =>
       by_cases hn:0<n
       ·by_cases ha:a=0
        ·simp [hn,ha,h5]
        ·simp [hn,ha,hw,h5]
       ·simp [hn,hw,h5]
      | some t =>
       obtain ⟨b,r6⟩:=t
       cases h6:Aur [44] r6 with
       | none =>
        by_cases hn:0<n
        ·by_cases ha:a=0
         ·simp [hn,ha,h5,h6]
         ·simp [hn,ha,hw,h5,h6]
        ·simp [hn,hw,h5,h6]
       | some r7 =>
        cases h7:AzQ r7 with
        | none =>
         by_cases hn:0<n
         ·by_cases ha:a=0
          ·simp [hn,ha,h5,h6,h7]
          ·simp [hn,ha,hw,h5,h6,h7]
         ·simp [hn,hw,h5,h6,h7]
        | some t =>
         obtain ⟨m,r8⟩:=t
         cases h8:Aur wEn r8 with
         | none =>
          by_cases hn:0<n<;>by_cases ha:a=0<;>by_cases hm:0<m<;>by_cases hb:b=0<;>simp [hn,ha,hm,hb,hw,h5,h6,h7,h8]
         | some r9 =>
          by_cases hn:0<n<;>by_cases ha:a=0<;>by_cases hm:0<m<;>by_cases hb:b=0<;>simp [hn,ha,hm,hb,hw,h5,h6,h7,h8]
end
section
open Go.RowKit
variable [AtW]
theorem AKH {n j t:Nat}:∀ {e:Env},(∀ p∈e,p.1≠j→Ax6 p.2≠some n)→t≠j→Ax6 (get e t)≠some n
 | [],_,_=>by simp [get,Ax6]
 | (k,x)::e,h,ht=>by
  rw [Aua]
  split
  ·rename_i hk; exact h (k,x) (by simp) (by simp only; omega)
  ·exact AKH (fun p hp=>h p (by simp [hp])) ht
theorem Au0 {n j k:Nat} {x:TV} {e:Env} (h1:k=j∨Ax6 x≠some n) (h:∀ p∈e,p.1≠j→Ax6 p.2≠some n):∀ p∈(k,x)::e,p.1≠j→Ax6 p.2≠some n:=fun p hp hj=>by
 rcases List.mem_cons.1 hp with rfl | hp
 ·exact h1.elim (fun h=>absurd h hj) id
 ·exact h p hp hj
theorem AFY {n j:Nat}:∀ p∈([]:Env),p.1≠j→Ax6 p.2≠some n:=fun p hp=>by cases hp
theorem ALv {Ss:List Nat} {e:Env} {o o' o2:Ob} (h:∀ p∈e,p.1≠2→Ax6 p.2≠some 0) (hS:2∉Ss):ADP Ss e [o,o2] [o',o2]:=fun t ht id hg=>by
 match id,hg with
 | 0,hg=>exact absurd hg (AKH h fun h2=>hS (h2▸ht))
 | i+1,_=>rfl
set_option maxRecDepth 100000 in
theorem AMf {e:Env} {f1 f2 f3 f4 f5 f6 f7 f8 f9:Bool} {A n B m:Int} {s9:List UInt8} {K:TV→List Ob→Prop} (g0:get e 0=ts s9) (g2:get e 2 = .op 0 0 []) (g5:get e 5 = .op 1 0 []) (g6:get e 6=tb f1) (g8:get e 8=tb f2) (g9:get e 9=tb f3) (g11:get e 11=tb f4) (g12:get e 12=tb f5) (g14:get e 14=tb f6) (g15:get e 15=tb f7) (g17:get e 17=tb f8) (g18:get e 18=tb f9)
  (hp:∀ p∈e,p.1≠2→Ax6 p.2≠some 0)
  (hK:∀ H',K (.tup [.agg [i64 A,i64 n,i64 B,i64 m,.val (.slice none 0 0)],ts s9,tb (f1 && (f2 && (f3 && (f4 && (f5 && (f6 && (f7 && (f8 && (f9 && (decide (0≤A) && decide (0≤B)))))))))))]) H') :
  vwp Tryz.prog Axv (AHv AxD K) e
   [.obj 0 (.agg [i64 ((0:Nat):Int),i64 ((0:Nat):Int),i64 ((0:Nat):Int),i64 ((0:Nat):Int),.val (.slice none 0 0)]),.obj 0 (.agg [i64 A,i64 n,i64 B,i64 m,.val (.slice none 0 0)])]:=by
 have hd:f1=false∨(f1=true∧(f2=false∨(f2=true∧(f3=false∨(f3=true∧(f4=false∨(f4=true∧(f5=false∨(f5=true∧(f6=false∨(f6=true∧(f7=false∨(f7=true∧(f8=false∨(f8=true∧(f9=false∨(f9=true∧((¬ 0≤A)∨(0≤A∧(¬ 0≤B∨0≤B)))))))))))))))))))):=by
  rcases f1<;>simp
  rcases f2<;>simp
  rcases f3<;>simp
  rcases f4<;>simp
  rcases f5<;>simp
  rcases f6<;>simp
  rcases f7<;>simp
  rcases f8<;>simp
  rcases f9<;>simp
  omega
 rcases hd with rfl | ⟨rfl,rfl | ⟨rfl,rfl | ⟨rfl,rfl | ⟨rfl,rfl | ⟨rfl,rfl | ⟨rfl,rfl | ⟨rfl,rfl | ⟨rfl,rfl | ⟨rfl,hA | ⟨hA,hB | hB⟩⟩⟩⟩⟩⟩⟩⟩⟩⟩
 all_goals
  first
  | (
   simp -dsimp (disch:=first | assumption | omega | (simp only [Atb];try omega)) only [↓Ate,Ata,Atf,Atd,eq_self,forall_const,Nat.reduceLT,Nat.reduceEqDiff,Nat.reduceSub,Nat.reduceMul,Nat.reduceMod,Nat.reduceDiv,Nat.reducePow,UInt8.reduceToNat,Int.reduceEq,Int.reduceLT,Int.reduceLE,↓reduceIte,Nat.reduceAdd,Int.reduceToNat,reduceCtorEq,Nat.reduceLeDiff,hA,hB,g0,g2,g5,g6,g8,g9,g11,g12,g14,g15,g17,g18,↓AvH,↓AxU]
   refine ⟨by simpa [hA,hB] using hK _,ALv ?_ (by decide +kernel)⟩
   repeat first | exact hp | refine Au0 (.inr (by simp [Ax6])) ?_)
  | (
   simp -dsimp (disch:=first | assumption | omega | (simp only [Atb];try omega)) only [↓Ate,Ata,Atf,Atd,eq_self,forall_const,Nat.reduceLT,Nat.reduceEqDiff,Nat.reduceSub,Nat.reduceMul,Nat.reduceMod,Nat.reduceDiv,Nat.reducePow,UInt8.reduceToNat,Int.reduceEq,Int.reduceLT,Int.reduceLE,↓reduceIte,Nat.reduceAdd,Int.reduceToNat,reduceCtorEq,Nat.reduceLeDiff,hA,g0,g2,g5,g6,g8,g9,g11,g12,g14,g15,g17,g18,↓AvH,↓AxU]
   refine ⟨by simpa [hA] using hK _,ALv ?_ (by decide +kernel)⟩
   repeat first | exact hp | refine Au0 (.inr (by simp [Ax6])) ?_)
  | (
   simp -dsimp (disch:=first | assumption | omega | (simp only [Atb];try omega)) only [↓Ate,Ata,Atf,Atd,eq_self,forall_const,Nat.reduceLT,Nat.reduceEqDiff,Nat.reduceSub,Nat.reduceMul,Nat.reduceMod,Nat.reduceDiv,Nat.reducePow,UInt8.reduceToNat,Int.reduceEq,Int.reduceLT,Int.reduceLE,↓reduceIte,Nat.reduceAdd,Int.reduceToNat,reduceCtorEq,Nat.reduceLeDiff,g0,g2,g5,g6,g8,g9,g11,g12,g14,g15,g17,g18,↓AvH,↓AxU]
   refine ⟨by simpa using hK _,ALv ?_ (by decide +kernel)⟩
   repeat first | exact hp | refine Au0 (.inr (by simp [Ax6])) ?_)
end
section
open Go.RowKit
variable [AtW]
def AYa (s:List UInt8) (x:TV):Prop:=∃ (A n B m:Int) (r:List UInt8),x = .tup [.agg [i64 A,i64 n,i64 B,i64 m,.val (.slice none 0 0)],ts r,tb (ABi s).isSome]∧(∀ p q r0,ABi s=some (p,q,r0)→A=(p.1:Int)∧n=(p.2:Int)∧B=(q.1:Int)∧m=(q.2:Int)∧r=r0)∧r.length≤s.length
theorem AEy {w s:List UInt8}:Lib.hasPrefix s w=(Aur w s).isSome∧∀ r,Aur w s=some r→AwK w s=r:=by
 unfold Aur AwK Lib.trimPrefix Lib.hasPrefix
 by_cases h:w.isPrefixOf s=true
 ·rw [h]; exact ⟨rfl,fun r hr=>by cases hr; rfl⟩
 ·rw [Bool.eq_false_iff.2 h]; exact ⟨rfl,fun r hr=>by cases hr⟩
theorem APq {s s1 s2 s3 s4 s5 s6 s7 s8 s9:List UInt8} {n1 n2 n3 n4:Nat} {A B:Int} {f1 f2 f3 f4 f5 f6 f7 f8 f9:Bool}
  (h1:f1=(Aur wAt s).isSome) (v1:∀ r,Aur wAt s=some r→s1=r)
  (h2:f2=(AzQ s1).isSome) (v2:∀ N r,AzQ s1=some (N,r)→n1=N∧s2=r)
  (h3:f3=(Aur [44] s2).isSome) (v3:∀ r,Aur [44] s2=some r→s3=r)
  (h4:f4=(AzQ s3).isSome) (v4:∀ N r,AzQ s3=some (N,r)→n2=N∧s4=r)
  (h5:f5=(Aur wPl s4).isSome) (v5:∀ r,Aur wPl s4=some r→s5=r)
  (h6:f6=(AzQ s5).isSome) (v6:∀ N r,AzQ s5=some (N,r)→n3=N∧s6=r)
  (h7:f7=(Aur [44] s6).isSome) (v7:∀ r,Aur [44] s6=some r→s7=r)
  (h8:f8=(AzQ s7).isSome) (v8:∀ N r,AzQ s7=some (N,r)→n4=N∧s8=r)
  (h9:f9=(Aur wEn s8).isSome) (v9:∀ r,Aur wEn s8=some r→s9=r)
  (hA:A=if 0<n2 then (n1:Int) - ((1:Nat):Int) else (n1:Int)) (hB:B=if 0<n4 then (n3:Int) - ((1:Nat):Int) else (n3:Int)) :
  (f1 && (f2 && (f3 && (f4 && (f5 && (f6 && (f7 && (f8 && (f9 && (decide (0≤A) && decide (0≤B)))))))))))=(ABi s).isSome ∧
  ∀ p q r0,ABi s=some (p,q,r0)→A=(p.1:Int)∧(n2:Int)=(p.2:Int)∧B=(q.1:Int)∧(n4:Int)=(q.2:Int)∧s9=r0:=by
 rw [AUk]
 unfold headD
 cases k1:Aur wAt s with
 | none=>rw [k1] at h1; subst h1; exact ⟨rfl,fun p q r0 h=>by cases h⟩
 | some r1 =>
  obtain rfl:=v1 _ k1
  rw [k1] at h1; subst h1
  simp only
  cases k2:AzQ s1 with
  | none=>rw [k2] at h2; subst h2; exact ⟨rfl,fun p q r0 h=>by cases h⟩
  | some t2 =>
   obtain ⟨N1,r2⟩:=t2
   obtain ⟨rfl,rfl⟩:=v2 _ _ k2
   rw [k2] at h2; subst h2
   simp only
   cases k3:Aur [44] s2 with
   | none=>rw [k3] at h3; subst h3; exact ⟨rfl,fun p q r0 h=>by cases h⟩
   | some r3 =>
    obtain rfl:=v3 _ k3
    rw [k3] at h3; subst h3
    simp only
    cases k4:AzQ s3 with
    | none=>rw [k4] at h4; subst h4; exact ⟨rfl,fun p q r0 h=>by cases h⟩
    | some t4 =>
     obtain ⟨N2,r4⟩:=t4
     obtain ⟨rfl,rfl⟩:=v4 _ _ k4
     rw [k4] at h4; subst h4
     simp only
     cases k5:Aur wPl s4 with
     | none=>rw [k5] at h5; subst h5; exact ⟨rfl,fun p q r0 h=>by cases h⟩
     | some r5 =>
      obtain rfl:=v5 _ k5
      rw [k5] at h5; subst h5
      simp only
      cases k6:AzQ s5 with
      | none=>rw [k6] at h6; subst h6; exact ⟨rfl,fun p q r0 h=>by cases h⟩
      | some t6 =>
       obtain ⟨N3,r6⟩:=t6
       obtain ⟨rfl,rfl⟩:=v6 _ _ k6
       rw [k6] at h6; subst h6
       simp only
       cases k7:Aur [44] s6 with
       | none=>rw [k7] at h7; subst h7; exact ⟨rfl,fun p q r0 h=>by cases h⟩
       | some r7 =>
        obtain rfl:=v7 _ k7
        rw [k7] at h7; subst h7
        simp only
        cases k8:AzQ s7 with
        | none=>rw [k8] at h8; subst h8; exact ⟨rfl,fun p q r0 h=>by cases h⟩
        | some t8 =>
         obtain ⟨N4,r8⟩:=t8
         obtain ⟨rfl,rfl⟩:=v8 _ _ k8
         rw [k8] at h8; subst h8
         simp only
         cases k9:Aur wEn s8 with
         | none=>rw [k9] at h9; subst h9; exact ⟨rfl,fun p q r0 h=>by cases h⟩
         | some r9 =>
          obtain rfl:=v9 _ k9
          rw [k9] at h9; subst h9
          simp only [Option.isSome_some,Bool.true_and]
          by_cases c:(0<n2∧n1=0)∨(0<n4∧n3=0)
          ·rw [if_pos c]
           refine ⟨?_,fun p q r0 h=>by cases h⟩
           rcases c with ⟨c1,c2⟩ | ⟨c1,c2⟩
           ·have:¬ 0≤A:=by rw [hA,if_pos c1]; omega
            simp [this]
           ·have:¬ 0≤B:=by rw [hB,if_pos c1]; omega
            simp [this]
          ·rw [if_neg c]
           have a0:A=((if 0<n2 then n1 - 1 else n1:Nat):Int):=by rw [hA]; split<;>omega
           have b0:B=((if 0<n4 then n3 - 1 else n3:Nat):Int):=by rw [hB]; split<;>omega
           refine ⟨?_,fun p q r0 h => ?_⟩
           ·have a1:0≤A:=by omega
            have b1:0≤B:=by omega
            simp [a1,b1]
           ·cases h
            exact ⟨a0,rfl,b0,rfl,rfl⟩
set_option maxHeartbeats 2000000 in
theorem AVX {n1 n2 n3 n4:Nat} {A B:Int} {f1 f2 f3 f4 f5 f6 f7 f8 f9:Bool} {s9:List UInt8} {K:TV→List Ob→Prop} (b1:n1<10000000000) (b2:n2<10000000000) (b3:n3<10000000000) (b4:n4<10000000000)
  (hA:A=if 0<n2 then (n1:Int) - ((1:Nat):Int) else (n1:Int)) (hB:B=if 0<n4 then (n3:Int) - ((1:Nat):Int) else (n3:Int))
  (hK:∀ H',K (.tup [.agg [i64 A,i64 (n2:Int),i64 B,i64 (n4:Int),.val (.slice none 0 0)],ts s9,tb (f1 && (f2 && (f3 && (f4 && (f5 && (f6 && (f7 && (f8 && (f9 && (decide (0≤A) && decide (0≤B)))))))))))]) H') :
  vwp Tryz.prog Axs (AHv AxD K) [(0,ts s9),(2,.op 0 0 []),(5,.op 1 0 []),(6,tb f1),(7,i64 (n1:Int)),(8,tb f2),(9,tb f3),(10,i64 (n2:Int)),(11,tb f4),(12,tb f5),(13,i64 (n3:Int)),(14,tb f6),(15,tb f7),(16,i64 (n4:Int)),(17,tb f8),(18,tb f9)]
   [.obj 0 (.agg [i64 ((0:Nat):Int),i64 ((0:Nat):Int),i64 ((0:Nat):Int),i64 ((0:Nat):Int),.val (.slice none 0 0)]),.obj 0 (.agg [i64 ((0:Nat):Int),i64 ((0:Nat):Int),i64 ((0:Nat):Int),i64 ((0:Nat):Int),.val (.slice none 0 0)])]:=by
 by_cases c2:0<n2
 ·rw [if_pos c2] at hA
  by_cases c4:0<n4
  ·rw [if_pos c4] at hB
   simp -dsimp (disch:=first | assumption | omega | (simp only [Atb];try omega)) only [↓Ate,Ata,Atf,Atd,eq_self,Nat.reduceEqDiff,↓reduceIte,Nat.reduceAdd,reduceCtorEq,↓Avg,↓Avd,↓Avf]
   rw [←hA,←hB]
   refine AMf rfl rfl rfl rfl rfl rfl rfl rfl rfl rfl rfl rfl ?_ hK
   repeat first | exact AFY | refine Au0 (.inl rfl) ?_ | refine Au0 (.inr (by simp [Ax6])) ?_
  ·rw [if_neg c4] at hB
   subst hB
   simp -dsimp (disch:=first | assumption | omega | (simp only [Atb];try omega)) only [↓Ate,Ata,Atf,Atd,eq_self,Nat.reduceEqDiff,↓reduceIte,Nat.reduceAdd,reduceCtorEq,↓Avg,↓Avd,↓Avf]
   rw [←hA]
   refine AMf rfl rfl rfl rfl rfl rfl rfl rfl rfl rfl rfl rfl ?_ hK
   repeat first | exact AFY | refine Au0 (.inl rfl) ?_ | refine Au0 (.inr (by simp [Ax6])) ?_
 ·rw [if_neg c2] at hA
  subst hA
  by_cases c4:0<n4
  ·rw [if_pos c4] at hB
   simp -dsimp (disch:=first | assumption | omega | (simp only [Atb];try omega)) only [↓Ate,Ata,Atf,Atd,eq_self,Nat.reduceEqDiff,↓reduceIte,Nat.reduceAdd,reduceCtorEq,↓Avg,↓Avd,↓Avf]
   rw [←hB]
   refine AMf rfl rfl rfl rfl rfl rfl rfl rfl rfl rfl rfl rfl ?_ hK
   repeat first | exact AFY | refine Au0 (.inl rfl) ?_ | refine Au0 (.inr (by simp [Ax6])) ?_
  ·rw [if_neg c4] at hB
   subst hB
   simp -dsimp (disch:=first | assumption | omega | (simp only [Atb];try omega)) only [↓Ate,Ata,Atf,Atd,eq_self,Nat.reduceEqDiff,↓reduceIte,Nat.reduceAdd,reduceCtorEq,↓Avg,↓Avd,↓Avf]
   refine AMf rfl rfl rfl rfl rfl rfl rfl rfl rfl rfl rfl rfl ?_ hK
   repeat first | exact AFY | refine Au0 (.inl rfl) ?_ | refine Au0 (.inr (by simp [Ax6])) ?_
set_option maxHeartbeats 1000000 in
theorem AUG (s:List UInt8) (hs:s.length≤900000):Auy Tryz.prog 33 [ts s] (AYa s):=by
 refine Ato.toPureV (AHJ (by simp) ?_)
 simp -dsimp (disch:=first | assumption | omega | (simp only [Atb];try omega)) only [↓Ate,Ata,Atf,Atd,eq_self,Nat.reduceEqDiff,↓reduceIte,reduceCtorEq,↓AGZ,↓ADO,↓ADu]
 refine AvI ((AIb s wAt (by omega) (by decide)).calls rfl fun x hx => ?_)
 subst hx
 obtain ⟨h1,v1⟩:=AEy (w:=wAt) (s:=s)
 have l1:=AvM wAt s
 generalize AwK wAt s=s1 at *
 generalize Lib.hasPrefix s wAt=f1 at *
 simp -dsimp (disch:=first | assumption | omega | (simp only [Atb];try omega)) only [↓Ate,Ata,Atf,Atd,eq_self,Nat.reduceEqDiff,↓reduceIte,reduceCtorEq,↓ADF]
 refine AvI ((AGU s1 (by omega)).calls rfl fun x hx => ?_)
 obtain ⟨n1,s2,rfl,v2,b1,l2⟩:=hx
 generalize h2:(AzQ s1).isSome=f2 at *
 simp -dsimp (disch:=first | assumption | omega | (simp only [Atb];try omega)) only [↓Ate,Ata,Atf,Atd,eq_self,Nat.reduceEqDiff,↓reduceIte,reduceCtorEq,↓ADC]
 refine AvI ((AIb s2 [44] (by omega) (by decide)).calls rfl fun x hx => ?_)
 subst hx
 obtain ⟨h3,v3⟩:=AEy (w:=[44]) (s:=s2)
 have l3:=AvM [44] s2
 generalize AwK [44] s2=s3 at *
 generalize Lib.hasPrefix s2 [44]=f3 at *
 simp -dsimp (disch:=first | assumption | omega | (simp only [Atb];try omega)) only [↓Ate,Ata,Atf,Atd,eq_self,Nat.reduceEqDiff,↓reduceIte,reduceCtorEq,↓ADv]
 refine AvI ((AGU s3 (by omega)).calls rfl fun x hx => ?_)
 obtain ⟨n2,s4,rfl,v4,b2,l4⟩:=hx
 generalize h4:(AzQ s3).isSome=f4 at *
 simp -dsimp (disch:=first | assumption | omega | (simp only [Atb];try omega)) only [↓Ate,Ata,Atf,Atd,eq_self,Nat.reduceEqDiff,↓reduceIte,reduceCtorEq,↓AEm]
 refine AvI ((AIb s4 wPl (by omega) (by decide)).calls rfl fun x hx => ?_)
 subst hx
 obtain ⟨h5,v5⟩:=AEy (w:=wPl) (s:=s4)
 have l5:=AvM wPl s4
 generalize AwK wPl s4=s5 at *
 generalize Lib.hasPrefix s4 wPl=f5 at *
 simp -dsimp (disch:=first | assumption | omega | (simp only [Atb];try omega)) only [↓Ate,Ata,Atf,Atd,eq_self,Nat.reduceEqDiff,↓reduceIte,reduceCtorEq,↓AED]
 refine AvI ((AGU s5 (by omega)).calls rfl fun x hx => ?_)
 obtain ⟨n3,s6,rfl,v6,b3,l6⟩:=hx
 generalize h6:(AzQ s5).isSome=f6 at *
 simp -dsimp (disch:=first | assumption | omega | (simp only [Atb];try omega)) only [↓Ate,Ata,Atf,Atd,eq_self,Nat.reduceEqDiff,↓reduceIte,reduceCtorEq,↓AEF]
 refine AvI ((AIb s6 [44] (by omega) (by decide)).calls rfl fun x hx => ?_)
 subst hx
 obtain ⟨h7,v7⟩:=AEy (w:=[44]) (s:=s6)
 have l7:=AvM [44] s6
 generalize AwK [44] s6=s7 at *
 generalize Lib.hasPrefix s6 [44]=f7 at *
 simp -dsimp (disch:=first | assumption | omega | (simp only [Atb];try omega)) only [↓Ate,Ata,Atf,Atd,eq_self,Nat.reduceEqDiff,↓reduceIte,reduceCtorEq,↓AD8]
 refine AvI ((AGU s7 (by omega)).calls rfl fun x hx => ?_)
 obtain ⟨n4,s8,rfl,v8,b4,l8⟩:=hx
 generalize h8:(AzQ s7).isSome=f8 at *
 simp -dsimp (disch:=first | assumption | omega | (simp only [Atb];try omega)) only [↓Ate,Ata,Atf,Atd,eq_self,Nat.reduceEqDiff,↓reduceIte,reduceCtorEq,↓AEr]
 refine AvI ((AIb s8 wEn (by omega) (by decide)).calls rfl fun x hx => ?_)
 subst hx
 obtain ⟨h9,v9⟩:=AEy (w:=wEn) (s:=s8)
 have l9:=AvM wEn s8
 generalize AwK wEn s8=s9 at *
 generalize Lib.hasPrefix s8 wEn=f9 at *
 simp -dsimp (disch:=first | assumption | omega | (simp only [Atb];try omega)) only [↓Ate,Ata,Atf,Atd,eq_self,Nat.reduceEqDiff,↓reduceIte,reduceCtorEq]
 obtain ⟨A,hA⟩:∃ A:Int,A=if 0<n2 then (n1:Int) - ((1:Nat):Int) else (n1:Int):=⟨_,rfl⟩
 obtain ⟨B,hB⟩:∃ B:Int,B=if 0<n4 then (n3:Int) - ((1:Nat):Int) else (n3:Int):=⟨_,rfl⟩
 obtain ⟨g1,g2⟩:=APq h1 v1 h2.symm v2 h3 v3 h4.symm v4 h5 v5 h6.symm v6 h7 v7 h8.symm v8 h9 v9 hA hB
 have hl:s9.length≤s.length:=by omega
 have fin:∀ H':List Ob,(AYa s) (.tup [.agg [i64 A,i64 (n2:Int),i64 B,i64 (n4:Int),.val (.slice none 0 0)],ts s9,tb (f1 && (f2 && (f3 && (f4 && (f5 && (f6 && (f7 && (f8 && (f9 && (decide (0≤A) && decide (0≤B)))))))))))]):=fun H'=>⟨A,n2,B,n4,s9,by rw [g1],g2,hl⟩
 clear h1 v1 h2 v2 h3 v3 h4 v4 h5 v5 h6 v6 h7 v7 h8 v8 h9 v9 g1 g2 l1 l2 l3 l4 l5 l6 l7 l8 l9
 refine AVX b1 b2 b3 b4 hA hB fun H' => ?_
 simp -dsimp (disch:=first | assumption | omega | (simp only [Atb];try omega)) only [Ata,Atf,Atd]
 exact fin H'
end
end Go.Proofs.YtkoilgokgaigbaaGreatDoor
