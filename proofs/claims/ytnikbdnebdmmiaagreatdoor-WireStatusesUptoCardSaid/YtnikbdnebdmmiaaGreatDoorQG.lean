/- WireStatusesUptoCard: the law, proved out of contracts of the functions that it reaches (texts merged; names shortened by a program). No condition is laid on it. -/
import Derived.Test.YtnikbdnebdmmiaaGreatDoorQF
import Derived.Test.YtnikbdnebdmmiaaGreatDoorQE
import Derived.Test.YtnikbdnebdmmiaaGreatDoorProg
import Derived.KernelRfl
import Derived.Lib.AtoiAll
import Derived.Lib.ItoaMem
import Derived.SevenTiedAt
import Derived.Test.YtnikbdnebdmmiaaGreatDoorCards
import Derived.Test.YtnikbdnebdmmiaaGreatDoorTie
import Derived.Test.YtnikbdnebdmmiaaGreatDoorRows
import Derived.WalkKit
import Derived.ProofKit
import Derived.OpenShut
import Derived.ShutString
import Derived.ChangeOld
import Derived.Below
import Derived.SizedLaws
import Derived.ChangeVars
import Derived.LaidLaws
import Derived.LaidHandle
import Derived.Stop.Joined
import Derived.Stop.LaidErr
import Derived.ClosedOfChecked
import Derived.Deep.DeepHandedRow
import Derived.JoinedCond
set_option linter.defProp false
set_option linter.unusedSectionVars false
set_option linter.unusedSimpArgs false
set_option linter.unusedVariables false
namespace Go.Proofs.YtnikbdnebdmmiaaGreatDoor
section
variable [AQ]
set_option maxRecDepth 100000
def Ez:Af := .seq (.block 1 (.seq (.ops [po_ 15 (.idxA 2 (.t 11) (.t 13)),po_ 16 (.load true 2 (.t 15)),so_ 9 (.alloc (.agg [.val (.string (str [])),.val (.int .i64 ((0:Nat):Int))])),⟨none,.s (.store 2 (.t 9) (.t 16)),none⟩] [0,1,2,7,9,11,12,13])
 (.ops [mv_ 17 7,mv_ 18 2,po_ 19 (.load true 2 (.t 9)),so_ 20 (.callv (.t 18) [.t 19]),po_ 21 (.gen (.look .str (.val (.int .i64 ((0:Nat):Int))) false) [.t 17,.t 20]),po_ 22 (.bin 3 .add (.t 21) (ci_ 1)),⟨none,.s (.mupd .str (.t 17) (.t 20) (.t 22)),none⟩] [0,1,2,7,11,12,13])))
 (.ops [po_ 23 (.bin 3 .add (.t 13) (ci_ 1)),mv_ 13 23] [0,1,2,7,11,12,13])
def DK:Af := .seq (.cond (.t 14)
 (.skip)
 (.exit 0))
 Ez
def DU:Af := .seq (.ops [po_ 14 (.bin 3 .lss (.t 13) (.t 12))] [0,1,2,7,11,12,13,14])
 DK
def Ei:Af := .block 0 (.loop [0,1,2,7,11,12,13] DU)
def Eo:Af := .seq (.ops [mv_ 24 7,po_ 25 (.gen .lenM [.t 24]),mv_ 26 0,po_ 27 (.lenV (.t 26)),po_ 28 (.bin 3 .eql (.t 25) (.t 27)),mv_ 29 28,⟨some 30,.p (.mov (.t 0)),some ⟨29,true⟩⟩,⟨some 31,.p (.lenV (.t 30)),some ⟨29,true⟩⟩,⟨some 32,.p (.mov (.t 1)),some ⟨29,true⟩⟩,⟨some 33,.p (.bin 3 .leq (.t 31) (.t 32)),some ⟨29,true⟩⟩,po_ 34 (.pick (.t 29) (.t 33) (.c (.bool false))),mv_ 6 34] [6])
 (.ret)
def Ew:Af := .seq (.seq (.ops [mv_ 11 0,po_ 12 (.lenV (.t 11)),po_ 13 (.mov (ci_ 0))] [0,1,2,7,11,12,13])
 Ei)
 Eo
def Ey:Af := .seq (.ops [so_ 10 (.mkm .str none),mv_ 7 10] [0,1,2,7])
 Ew
def ER:Af := .seq (.ops [po_ 6 (.mov (.c (.bool false)))] [0,1,2])
 Ey
def ES:List VR:=[.tmp 6]
theorem LD:Tryz.f48.body.bind (trC Tryz.prog Tryz.f48.ntmps)=some (er ER):=by kernel_rfl
theorem LG:trR Tryz.prog Tryz.f48.results.toList=some ES:=by kernel_rfl
def GG:=Ac Ez.eq_1
def Bj:=Ac DK.eq_1
def Bi:=Ac DU.eq_1
def GI:=Ac Ei.eq_1
def BQ:=Ac Eo.eq_1
def G8:=Ac Ew.eq_1
def GU:=Ac Ey.eq_1
def JH:=Ac ER.eq_1
theorem CE {K:TV→Prop} {e:Env} {H:List Ob}:res ES e H K=res [.tmp 6] e H K:=Aa rfl
def KU:=Dj 35 Tryz.func48 LD LG rfl
def LX:Af := .seq (.ops [so_ 1 (.box (.t 0)),po_ 2 (.mov (.c (.string (str []))))] [1])
 (.seq (.ops [po_ 3 (.fieldA 0 0 (.t 1)),po_ 4 (.load false 1 (.t 3)),mv_ 2 4] [2])
 (.ret))
def LZ:List VR:=[.tmp 2]
theorem Vq:Tryz.f49.body.bind (trC Tryz.prog Tryz.f49.ntmps)=some (er LX):=by kernel_rfl
theorem Vk:trR Tryz.prog Tryz.f49.results.toList=some LZ:=by kernel_rfl
def TF:=Ac LX.eq_1
theorem TG {K:TV→Prop} {e:Env} {H:List Ob}:res LZ e H K=res [.tmp 2] e H K:=Aa rfl
def VE:=(And.intro @TF @TG)
def Ud:=Dj 5 Tryz.func49 Vq Vk rfl
def J3:Af := .draw 6 [mv_ 42 4,po_ 43 (.fieldA 0 0 (.t 6)),po_ 44 (.load false 1 (.t 43)),po_ 45 (.fieldA 1 1 (.t 6)),po_ 46 (.load false 1 (.t 45)),so_ 47 (.call 50 [.t 46]),⟨some 48,.s (.bslice 1 3 (.val (.string (str []))) [⟨0,.c (.string (str [110,103]))⟩,⟨1,.t 44⟩,⟨2,.t 47⟩]),none⟩,so_ 49 (.call 29 [.t 42,.t 48])] [4,13,14,15]
def Kq:Af := .cond (.t 36)
 (.ops [mv_ 37 4,po_ 38 (.fieldA 0 0 (.t 6)),po_ 39 (.load false 1 (.t 38)),⟨some 40,.s (.bslice 1 2 (.val (.string (str []))) [⟨0,.c (.string (str [111,107]))⟩,⟨1,.t 39⟩]),none⟩,so_ 41 (.call 29 [.t 37,.t 40])] [4,13,14,15])
 J3
def Lj:Af := .seq (.ops [po_ 34 (.fieldA 1 1 (.t 6)),po_ 35 (.load false 1 (.t 34)),po_ 36 (.bin 33 .eql (.t 35) (ci_ 0))] [4,6,13,14,15,36])
 Kq
def Ll:Af := .seq (.ops [mv_ 19 4,po_ 20 (.fieldA 0 0 (.t 6)),po_ 21 (.load false 1 (.t 20)),so_ 22 (.call 40 [.t 21]),mv_ 23 22,⟨some 24,.p (.fieldA 1 1 (.t 6)),some ⟨23,true⟩⟩,⟨some 25,.p (.load false 1 (.t 24)),some ⟨23,true⟩⟩,⟨some 26,.p (.bin 33 .geq (.t 25) (ci_ 0)),some ⟨23,true⟩⟩,po_ 27 (.pick (.t 23) (.t 26) (.c (.bool false))),mv_ 28 27,⟨some 29,.p (.fieldA 1 1 (.t 6)),some ⟨28,true⟩⟩,⟨some 30,.p (.load false 1 (.t 29)),some ⟨28,true⟩⟩,⟨some 31,.p (.bin 33 .leq (.t 30) (ci_ 999)),some ⟨28,true⟩⟩,po_ 32 (.pick (.t 28) (.t 31) (.c (.bool false))),so_ 33 (.call 27 [.t 19,.t 32])] [4,6,13,14,15])
 Lj
def KT:Af := .seq (.block 1 (.seq (.ops [po_ 17 (.idxA 2 (.t 13) (.t 15)),po_ 18 (.load true 2 (.t 17)),so_ 6 (.alloc (.agg [.val (.string (str [])),.val (.int .i64 ((0:Nat):Int))])),⟨none,.s (.store 2 (.t 6) (.t 18)),none⟩] [4,6,13,14,15])
 Ll))
 (.ops [po_ 50 (.bin 3 .add (.t 15) (ci_ 1)),mv_ 15 50] [4,13,14,15])
def JX:Af := .seq (.cond (.t 16)
 (.skip)
 (.exit 0))
 KT
def JY:Af := .seq (.ops [po_ 16 (.bin 3 .lss (.t 15) (.t 14))] [4,13,14,15,16])
 JX
def Lc:Af := .block 0 (.loop [4,13,14,15] JY)
def KR:Af := .seq (.ops [mv_ 51 4,so_ 52 (.call 31 [.t 51])] [4])
 (.seq (.ops [mv_ 53 4,so_ 54 (.call 32 [.t 53]),po_ 55 (.ext 0 (.t 54)),po_ 56 (.ext 1 (.t 54)),mv_ 2 55,mv_ 3 56] [2,3])
 (.ret))
def II:Af := .seq (.seq (.ops [mv_ 13 0,po_ 14 (.lenV (.t 13)),po_ 15 (.mov (ci_ 0))] [4,13,14,15])
 Lc)
 KR
def IY:Af := .seq (.ops [mv_ 9 4,mv_ 10 0,so_ 11 (.call 48 [.t 10,.c (.int .i64 ((500:Nat):Int)),.c (.func (.func 49) #[] #[])]),so_ 12 (.call 27 [.t 9,.t 11])] [0,4])
 II
def IP:Af := .seq (.ops [po_ 7 (.build [.val (.slice none 0 0),.val (.bool false)] [1,1] []),so_ 8 (.box (.t 7)),mv_ 4 8] [0,4])
 IY
def N7:Af := .seq (.ops [po_ 2 (.mov (.c (.slice none 0 0))),po_ 3 (.mov (.c .nilIface))] [0])
 IP
def Ot:List VR:=[.tmp 2,.tmp 3]
theorem X6:Tryz.f23.body.bind (trC Tryz.prog Tryz.f23.ntmps)=some (er N7):=by kernel_rfl
theorem XU:trR Tryz.prog Tryz.f23.results.toList=some Ot:=by kernel_rfl
def QO:=Ac J3.eq_1
def Iq:=Ac Kq.eq_1
def Iw:=Ac Lj.eq_1
def QW:=Ac Ll.eq_1
def QN:=Ac KT.eq_1
def IC:=Ac JX.eq_1
def H7:=Ac JY.eq_1
def Ri:=Ac Lc.eq_1
def Rx:=Ac KR.eq_1
def Qy:=Ac II.eq_1
def Qn:=Ac IY.eq_1
def Qi:=Ac IP.eq_1
def Vw:=Ac N7.eq_1
theorem LK {K:TV→Prop} {e:Env} {H:List Ob}:res Ot e H K=res [.tmp 2,.tmp 3] e H K:=Aa rfl
def WH:=Dj 57 Tryz.func23 X6 XU rfl
def LU:Af := .ops [mv_ 37 6,mv_ 38 8,po_ 39 (.idxA 1 (.t 38) (ci_ 1)),po_ 40 (.load false 1 (.t 39)),⟨some 41,.p (.build [.val (.string (str [])),.val (.int .i64 ((0:Nat):Int))] [1,1] [⟨0,.t 40⟩]),none⟩,⟨some 42,.s (.bslice 2 1 (.agg [.val (.string (str [])),.val (.int .i64 ((0:Nat):Int))]) [⟨0,.t 41⟩]),none⟩,so_ 43 (.app 2 24 57 (.t 37) (.t 42)),mv_ 6 43] [0,6,21,22,23]
def LV:Af := .seq (.ops [mv_ 55 8,po_ 56 (.idxA 1 (.t 55) (ci_ 2)),po_ 57 (.load false 1 (.t 56)),so_ 58 (.call 84 [.t 57]),mv_ 54 58,po_ 59 (.ext 0 (.t 54)),po_ 60 (.ext 1 (.t 54)),mv_ 9 59,mv_ 10 60] [0,6,8,9,21,22,23])
 (.ops [mv_ 61 6,mv_ 62 8,po_ 63 (.idxA 1 (.t 62) (ci_ 1)),po_ 64 (.load false 1 (.t 63)),mv_ 65 9,⟨some 66,.p (.build [.val (.string (str [])),.val (.int .i64 ((0:Nat):Int))] [1,1] [⟨0,.t 64⟩,⟨1,.t 65⟩]),none⟩,⟨some 67,.s (.bslice 2 1 (.agg [.val (.string (str [])),.val (.int .i64 ((0:Nat):Int))]) [⟨0,.t 66⟩]),none⟩,so_ 68 (.app 2 24 57 (.t 61) (.t 67)),mv_ 6 68] [0,6,21,22,23])
def Mc:Af := .cond (.t 44)
 LV
 (.skip)
def LY:Af := .seq (.ops [mv_ 45 8,po_ 46 (.lenV (.t 45)),po_ 47 (.bin 3 .eql (.t 46) (ci_ 3)),mv_ 48 47,⟨some 49,.p (.mov (.t 8)),some ⟨48,true⟩⟩,⟨some 50,.p (.idxA 1 (.t 49) (ci_ 0)),some ⟨48,true⟩⟩,⟨some 51,.p (.load false 1 (.t 50)),some ⟨48,true⟩⟩,⟨some 52,.p (.bin 9 .eql (.t 51) (.c (.string (str [110,103])))),some ⟨48,true⟩⟩,po_ 53 (.pick (.t 48) (.t 52) (.c (.bool false))),mv_ 44 53] [0,6,8,21,22,23,44])
 Mc
def MB:Af := .cond (.t 27)
 LU
 LY
def LM:Af := .block 2 (.seq (.ops [mv_ 28 8,po_ 29 (.lenV (.t 28)),po_ 30 (.bin 3 .eql (.t 29) (ci_ 2)),mv_ 31 30,⟨some 32,.p (.mov (.t 8)),some ⟨31,true⟩⟩,⟨some 33,.p (.idxA 1 (.t 32) (ci_ 0)),some ⟨31,true⟩⟩,⟨some 34,.p (.load false 1 (.t 33)),some ⟨31,true⟩⟩,⟨some 35,.p (.bin 9 .eql (.t 34) (.c (.string (str [111,107])))),some ⟨31,true⟩⟩,po_ 36 (.pick (.t 31) (.t 35) (.c (.bool false))),mv_ 27 36] [0,6,8,21,22,23,27])
 MB)
def MG:Af := .seq (.block 1 (.seq (.ops [po_ 25 (.idxA 1 (.t 21) (.t 23)),po_ 26 (.load false 1 (.t 25)),mv_ 8 26] [0,6,8,21,22,23])
 LM))
 (.ops [po_ 69 (.bin 3 .add (.t 23) (ci_ 1)),mv_ 23 69] [0,6,21,22,23])
def Md:Af := .seq (.cond (.t 24)
 (.skip)
 (.exit 0))
 MG
def MF:Af := .seq (.ops [po_ 24 (.bin 3 .lss (.t 23) (.t 22))] [0,6,21,22,23,24])
 Md
def J9:Af := .block 0 (.own 6 2 (.loop [0,6,21,22,23] MF))
def KH:Af := .seq (.seq (.ops [mv_ 75 0,mv_ 76 11,mv_ 77 5,so_ 78 (.call 66 [.t 75,.t 76,.t 77]),mv_ 12 78] [6,12])
 (.seq (.ops [mv_ 79 12,po_ 80 (.eqN 1 (.t 79) (.c .nilIface) true)] [6,12,80])
 (.cond (.t 80)
 (.seq (.ops [mv_ 81 12,po_ 2 (.mov (.c (.slice none 0 0))),mv_ 3 81] [2,3])
  (.ret))
 (.skip))))
 (.seq (.ops [mv_ 82 6,so_ 83 (.call 85 [.t 82]),mv_ 2 83,po_ 3 (.mov (.c .nilIface))] [2,3])
 (.ret))
def KX:Af := .seq (.ops [mv_ 71 6,so_ 72 (.call 23 [.t 71]),mv_ 70 72,po_ 73 (.ext 0 (.t 70)),po_ 74 (.ext 1 (.t 70)),mv_ 11 73,mv_ 5 74] [0,5,6,11])
 KH
def Kz:Af := .seq (.seq (.ops [mv_ 21 4,po_ 22 (.lenV (.t 21)),po_ 23 (.mov (ci_ 0))] [0,6,21,22,23])
 J9)
 KX
def KY:Af := .seq (.ops [po_ 6 (.mov (.c (.slice none 0 0)))] [0,4,6])
 Kz
def JZ:Af := .seq (.seq (.ops [mv_ 18 5,po_ 19 (.eqN 1 (.t 18) (.c .nilIface) true)] [0,4,5,19])
 (.cond (.t 19)
 (.seq (.ops [mv_ 20 5,po_ 2 (.mov (.c (.slice none 0 0))),mv_ 3 20] [2,3])
  (.ret))
 (.skip)))
 KY
def KW:Af := .seq (.ops [mv_ 14 0,so_ 15 (.call 64 [.t 14]),mv_ 13 15,po_ 16 (.ext 0 (.t 13)),po_ 17 (.ext 1 (.t 13)),mv_ 4 16,mv_ 5 17] [0,4,5])
 JZ
def PV:Af := .seq (.ops [po_ 2 (.mov (.c (.slice none 0 0))),po_ 3 (.mov (.c .nilIface))] [0])
 KW
def Qc:List VR:=[.tmp 2,.tmp 3]
theorem ZB:Tryz.f52.body.bind (trC Tryz.prog Tryz.f52.ntmps)=some (er PV):=by kernel_rfl
theorem Y5:trR Tryz.prog Tryz.f52.results.toList=some Qc:=by kernel_rfl
def TB:=Ac LU.eq_1
def Tz:=Ac LV.eq_1
def Di:=Ac Mc.eq_1
def Dh:=Ac LY.eq_1
def CB:=Ac MB.eq_1
def Cj:=Ac LM.eq_1
def Cm:=Ac MG.eq_1
def BH:=Ac Md.eq_1
def BI:=Ac MF.eq_1
def QJ:=Ac J9.eq_1
def Hm:=Ac KH.eq_1
def QT:=Ac KX.eq_1
def Rt:=Ac Kz.eq_1
def Q7:=Ac KY.eq_1
def Ia:=Ac JZ.eq_1
def QU:=Ac KW.eq_1
def WA:=Ac PV.eq_1
theorem EO {K:TV→Prop} {e:Env} {H:List Ob}:res Qc e H K=res [.tmp 2,.tmp 3] e H K:=Aa rfl
def YA:=Dj 84 Tryz.func52 ZB Y5 rfl
def Jp:Af := .seq (.block 3 (.seq (.draw 5 [mv_ 47 0,mv_ 48 7,po_ 49 (.idxA 2 (.t 47) (.t 48)),po_ 50 (.fieldA 0 0 (.t 49)),po_ 51 (.load false 1 (.t 50)),mv_ 52 0,mv_ 53 5,po_ 54 (.idxA 2 (.t 52) (.t 53)),po_ 55 (.fieldA 0 0 (.t 54)),po_ 56 (.load false 1 (.t 55)),po_ 57 (.bin 9 .eql (.t 51) (.t 56))] [0,4,5,7,57])
 (.cond (.t 57)
 (.seq (.ops [po_ 2 (.mov (.c (.slice none 0 0))),po_ 3 (.mov (ci_ 111))] [2,3])
  (.ret))
 (.skip))))
 (.ops [mv_ 45 7,po_ 46 (.bin 3 .add (.t 45) (ci_ 1)),mv_ 7 46] [0,4,5,7])
def EX:Af := .seq (.seq (.ops [mv_ 42 7,mv_ 43 5,po_ 44 (.bin 3 .lss (.t 42) (.t 43))] [0,4,5,7,44])
 (.cond (.t 44)
 (.skip)
 (.exit 2)))
 Jp
def Jj:Af := .block 2 (.loop [0,4,5,7] EX)
def Jm:Af := .draw 13 [mv_ 71 0,mv_ 72 5,po_ 73 (.idxA 2 (.t 71) (.t 72)),po_ 74 (.fieldA 0 0 (.t 73)),po_ 75 (.load false 1 (.t 74)),po_ 76 (.bin 9 .add (.c (.string (str [110,103,32]))) (.t 75)),po_ 77 (.bin 9 .add (.t 76) (.c (.string (str [32])))),mv_ 78 0,mv_ 79 5,po_ 80 (.idxA 2 (.t 78) (.t 79)),po_ 81 (.fieldA 1 1 (.t 80)),po_ 82 (.load false 1 (.t 81)),so_ 83 (.call 51 [.t 82]),po_ 84 (.bin 9 .add (.t 77) (.t 83)),so_ 85 (.call 34 [.t 84]),mv_ 8 85] [0,4,5,8]
def IZ:Af := .cond (.t 70)
 Jm
 (.skip)
def Jb:Af := .seq (.seq (.ops [mv_ 65 0,mv_ 66 5,po_ 67 (.idxA 2 (.t 65) (.t 66)),po_ 68 (.fieldA 1 1 (.t 67)),po_ 69 (.load false 1 (.t 68)),po_ 70 (.bin 3 .gtr (.t 69) (ci_ 0))] [0,4,5,8,70])
 IZ)
 (.ops [mv_ 86 4,mv_ 87 8,so_ 88 (.app 1 1 5 (.t 86) (.t 87)),mv_ 4 88] [0,4,5])
def IR:Af := .seq (.ops [mv_ 58 0,mv_ 59 5,po_ 60 (.idxA 2 (.t 58) (.t 59)),po_ 61 (.fieldA 0 0 (.t 60)),po_ 62 (.load false 1 (.t 61)),po_ 63 (.bin 9 .add (.c (.string (str [111,107,32]))) (.t 62)),so_ 64 (.call 34 [.t 63]),mv_ 8 64] [0,4,5,8])
 Jb
def IU:Af := .seq (.seq (.ops [po_ 7 (.mov (ci_ 0))] [0,4,5,7])
 Jj)
 IR
def I8:Af := .seq (.seq (.ops [mv_ 24 6,po_ 25 (.un .not (.t 24)),mv_ 26 25,⟨some 27,.p (.mov (.t 0)),some ⟨26,false⟩⟩,⟨some 28,.p (.mov (.t 5)),some ⟨26,false⟩⟩,⟨some 29,.p (.idxA 2 (.t 27) (.t 28)),some ⟨26,false⟩⟩,⟨some 30,.p (.fieldA 1 1 (.t 29)),some ⟨26,false⟩⟩,⟨some 31,.p (.load false 1 (.t 30)),some ⟨26,false⟩⟩,⟨some 32,.p (.bin 3 .lss (.t 31) (ci_ 0)),some ⟨26,false⟩⟩,po_ 33 (.pick (.t 26) (.c (.bool true)) (.t 32)),mv_ 34 33,⟨some 35,.p (.mov (.t 0)),some ⟨34,false⟩⟩,⟨some 36,.p (.mov (.t 5)),some ⟨34,false⟩⟩,⟨some 37,.p (.idxA 2 (.t 35) (.t 36)),some ⟨34,false⟩⟩,⟨some 38,.p (.fieldA 1 1 (.t 37)),some ⟨34,false⟩⟩,⟨some 39,.p (.load false 1 (.t 38)),some ⟨34,false⟩⟩,⟨some 40,.p (.bin 3 .gtr (.t 39) (ci_ 999)),some ⟨34,false⟩⟩,po_ 41 (.pick (.t 34) (.c (.bool true)) (.t 40))] [0,4,5,41])
 (.cond (.t 41)
 (.seq (.ops [po_ 2 (.mov (.c (.slice none 0 0))),po_ 3 (.mov (ci_ 111))] [2,3])
  (.ret))
 (.skip)))
 IU
def Iy:Af := .ops [mv_ 16 5,po_ 17 (.bin 3 .add (.t 16) (ci_ 1)),mv_ 5 17] [0,4,5]
def Hy:Af := .seq (.block 1 (.seq (.ops [mv_ 18 0,mv_ 19 5,po_ 20 (.idxA 2 (.t 18) (.t 19)),po_ 21 (.fieldA 0 0 (.t 20)),po_ 22 (.load false 1 (.t 21)),so_ 23 (.call 41 [.t 22]),mv_ 6 23] [0,4,5,6])
 I8))
 Iy
def Iz:Af := .seq (.seq (.ops [mv_ 12 5,mv_ 13 0,po_ 14 (.lenV (.t 13)),po_ 15 (.bin 3 .lss (.t 12) (.t 14))] [0,4,5,15])
 (.cond (.t 15)
 (.skip)
 (.exit 0)))
 Hy
def Hw:Af := .block 0 (.own 4 1 (.loop [0,4,5] Iz))
def Ho:Af := .seq (.ops [mv_ 89 4,so_ 90 (.appS 5 (.t 89) (.c (.string (str [48,48,48,48])))),mv_ 2 90,po_ 3 (.mov (ci_ 0))] [2,3])
 (.ret)
def Ih:Af := .seq (.seq (.ops [po_ 5 (.mov (ci_ 0))] [0,4,5])
 Hw)
 Ho
def IB:Af := .seq (.seq (.ops [mv_ 9 0,po_ 10 (.lenV (.t 9)),po_ 11 (.bin 3 .gtr (.t 10) (ci_ 500))] [0,4,11])
 (.cond (.t 11)
 (.seq (.ops [po_ 2 (.mov (.c (.slice none 0 0))),po_ 3 (.mov (ci_ 111))] [2,3])
  (.ret))
 (.skip)))
 Ih
def Ht:Af := .seq (.ops [po_ 4 (.mov (.c (.slice none 0 0)))] [0,4])
 IB
def Np:Af := .seq (.ops [po_ 2 (.mov (.c (.slice none 0 0))),po_ 3 (.mov (ci_ 0))] [0])
 Ht
def F6:List VR:=[.tmp 2,.tmp 3]
theorem WR:Tryz.f24.body.bind (trC Tryz.prog Tryz.f24.ntmps)=some (er Np):=by kernel_rfl
theorem Xl:trR Tryz.prog Tryz.f24.results.toList=some F6:=by kernel_rfl
def Gh:=Ac Jp.eq_1
def EE:=Ac EX.eq_1
def Pj:=Ac Jj.eq_1
def Qk:=Ac Jm.eq_1
def Gx:=Ac IZ.eq_1
def Gs:=Ac Jb.eq_1
def PD:=Ac IR.eq_1
def QA:=Ac IU.eq_1
def CP:=Ac I8.eq_1
def FN:=Ac Iy.eq_1
def OH:=Ac Hy.eq_1
def FQ:=Ac Iz.eq_1
def OT:=Ac Hw.eq_1
def O5:=Ac Ho.eq_1
def O0:=Ac Ih.eq_1
def FT:=Ac IB.eq_1
def FH:=Ac Ht.eq_1
def Lh:=Ac Np.eq_1
theorem Lp {K:TV→Prop} {e:Env} {H:List Ob}:res F6 e H K=res [.tmp 2,.tmp 3] e H K:=Aa rfl
def VG:=Dj 91 Tryz.func24 WR Xl rfl
def Lr:Af := .ops [mv_ 40 6,mv_ 41 8,po_ 42 (.idxA 1 (.t 41) (ci_ 1)),po_ 43 (.load false 1 (.t 42)),⟨some 44,.p (.build [.val (.string (str [])),.val (.int .i64 ((0:Nat):Int))] [1,1] [⟨0,.t 43⟩]),none⟩,⟨some 45,.s (.bslice 2 1 (.agg [.val (.string (str [])),.val (.int .i64 ((0:Nat):Int))]) [⟨0,.t 44⟩]),none⟩,so_ 46 (.app 2 24 59 (.t 40) (.t 45)),mv_ 6 46] [0,4,6,7,8]
def J7:Af := .seq (.block 3 (.ops [mv_ 68 9,po_ 69 (.bin 3 .mul (.t 68) (ci_ 10)),mv_ 70 8,po_ 71 (.idxA 1 (.t 70) (ci_ 2)),po_ 72 (.load false 1 (.t 71)),mv_ 73 10,po_ 74 (.idxS (.t 72) (.t 73)),po_ 75 (.conv .i64 (.t 74)),po_ 76 (.bin 3 .add (.t 69) (.t 75)),po_ 77 (.bin 3 .sub (.t 76) (ci_ 48)),mv_ 9 77] [0,4,6,7,8,9,10]))
 (.ops [mv_ 66 10,po_ 67 (.bin 3 .add (.t 66) (ci_ 1)),mv_ 10 67] [0,4,6,7,8,9,10])
def Ff:Af := .seq (.seq (.ops [mv_ 56 10,mv_ 57 8,po_ 58 (.idxA 1 (.t 57) (ci_ 2)),po_ 59 (.load false 1 (.t 58)),po_ 60 (.lenS (.t 59)),po_ 61 (.bin 3 .lss (.t 56) (.t 60)),mv_ 62 61,⟨some 63,.p (.mov (.t 10)),some ⟨62,true⟩⟩,⟨some 64,.p (.bin 3 .lss (.t 63) (ci_ 4)),some ⟨62,true⟩⟩,po_ 65 (.pick (.t 62) (.t 64) (.c (.bool false)))] [0,4,6,7,8,9,10,65])
 (.cond (.t 65)
 (.skip)
 (.exit 2)))
 J7
def KI:Af := .block 2 (.loop [0,4,6,7,8,9,10] Ff)
def Kr:Af := .ops [mv_ 78 6,mv_ 79 8,po_ 80 (.idxA 1 (.t 79) (ci_ 1)),po_ 81 (.load false 1 (.t 80)),mv_ 82 9,⟨some 83,.p (.build [.val (.string (str [])),.val (.int .i64 ((0:Nat):Int))] [1,1] [⟨0,.t 81⟩,⟨1,.t 82⟩]),none⟩,⟨some 84,.s (.bslice 2 1 (.agg [.val (.string (str [])),.val (.int .i64 ((0:Nat):Int))]) [⟨0,.t 83⟩]),none⟩,so_ 85 (.app 2 24 59 (.t 78) (.t 84)),mv_ 6 85] [0,4,6,7]
def KC:Af := .seq (.seq (.ops [po_ 10 (.mov (ci_ 0))] [0,4,6,7,8,9,10])
 KI)
 Kr
def Kv:Af := .seq (.ops [po_ 9 (.mov (ci_ 0))] [0,4,6,7,8,9])
 KC
def J5:Af := .cond (.t 55)
 Kv
 (.skip)
def KQ:Af := .seq (.ops [mv_ 47 8,po_ 48 (.lenV (.t 47)),po_ 49 (.bin 3 .eql (.t 48) (ci_ 3)),mv_ 50 49,⟨some 51,.p (.mov (.t 8)),some ⟨50,true⟩⟩,⟨some 52,.p (.idxA 1 (.t 51) (ci_ 0)),some ⟨50,true⟩⟩,⟨some 53,.p (.load false 1 (.t 52)),some ⟨50,true⟩⟩,⟨some 54,.p (.bin 9 .eql (.t 53) (.c (.string (str [110,103])))),some ⟨50,true⟩⟩,po_ 55 (.pick (.t 50) (.t 54) (.c (.bool false)))] [0,4,6,7,8,55])
 J5
def IQ:Af := .seq (.seq (.ops [mv_ 31 8,po_ 32 (.lenV (.t 31)),po_ 33 (.bin 3 .eql (.t 32) (ci_ 2)),mv_ 34 33,⟨some 35,.p (.mov (.t 8)),some ⟨34,true⟩⟩,⟨some 36,.p (.idxA 1 (.t 35) (ci_ 0)),some ⟨34,true⟩⟩,⟨some 37,.p (.load false 1 (.t 36)),some ⟨34,true⟩⟩,⟨some 38,.p (.bin 9 .eql (.t 37) (.c (.string (str [111,107])))),some ⟨34,true⟩⟩,po_ 39 (.pick (.t 34) (.t 38) (.c (.bool false)))] [0,4,6,7,8,39])
 (.cond (.t 39)
 Lr
 (.skip)))
 KQ
def Ja:Af := .ops [mv_ 24 7,po_ 25 (.bin 3 .add (.t 24) (ci_ 1)),mv_ 7 25] [0,4,6,7]
def Ji:Af := .seq (.block 1 (.seq (.ops [mv_ 26 4,mv_ 27 7,po_ 28 (.idxA 1 (.t 26) (.t 27)),po_ 29 (.load false 1 (.t 28)),so_ 30 (.call 68 [.t 29]),mv_ 8 30] [0,4,6,7,8])
 IQ))
 Ja
def IL:Af := .seq (.seq (.ops [mv_ 20 7,mv_ 21 4,po_ 22 (.lenV (.t 21)),po_ 23 (.bin 3 .lss (.t 20) (.t 22))] [0,4,6,7,23])
 (.cond (.t 23)
 (.skip)
 (.exit 0)))
 Ji
def Jr:Af := .block 0 (.own 6 2 (.loop [0,4,6,7] IL))
def IK:Af := .seq (.seq (.ops [mv_ 91 12,po_ 92 (.bin 3 .neq (.t 91) (ci_ 0)),mv_ 93 92,⟨some 94,.p (.mov (.t 11)),some ⟨93,false⟩⟩,⟨some 95,.p (.b2s (.t 94)),some ⟨93,false⟩⟩,⟨some 96,.p (.mov (.t 0)),some ⟨93,false⟩⟩,⟨some 97,.p (.b2s (.t 96)),some ⟨93,false⟩⟩,⟨some 98,.p (.bin 9 .neq (.t 95) (.t 97)),some ⟨93,false⟩⟩,po_ 99 (.pick (.t 93) (.c (.bool true)) (.t 98))] [6,99])
 (.cond (.t 99)
 (.seq (.ops [po_ 2 (.mov (.c (.slice none 0 0))),po_ 3 (.mov (ci_ 111))] [2,3])
  (.ret))
 (.skip)))
 (.seq (.ops [mv_ 100 6,mv_ 2 100,po_ 3 (.mov (ci_ 0))] [2,3])
 (.ret))
def Jq:Af := .seq (.ops [mv_ 87 6,so_ 88 (.call 24 [.t 87]),mv_ 86 88,po_ 89 (.ext 0 (.t 86)),po_ 90 (.ext 1 (.t 86)),mv_ 11 89,mv_ 12 90] [0,6,11,12])
 IK
def IW:Af := .seq (.seq (.ops [po_ 7 (.mov (ci_ 0))] [0,4,6,7])
 Jr)
 Jq
def Jf:Af := .seq (.ops [po_ 6 (.mov (.c (.slice none 0 0)))] [0,4,6])
 IW
def Jl:Af := .seq (.seq (.ops [mv_ 18 5,po_ 19 (.un .not (.t 18))] [0,4,19])
 (.cond (.t 19)
 (.seq (.ops [po_ 2 (.mov (.c (.slice none 0 0))),po_ 3 (.mov (ci_ 110))] [2,3])
  (.ret))
 (.skip)))
 Jf
def IV:Af := .seq (.ops [mv_ 14 0,so_ 15 (.call 67 [.t 14]),mv_ 13 15,po_ 16 (.ext 0 (.t 13)),po_ 17 (.ext 1 (.t 13)),mv_ 4 16,mv_ 5 17] [0,4,5])
 Jl
def Om:Af := .seq (.ops [po_ 2 (.mov (.c (.slice none 0 0))),po_ 3 (.mov (ci_ 0))] [0])
 IV
def Oc:List VR:=[.tmp 2,.tmp 3]
theorem XI:Tryz.f53.body.bind (trC Tryz.prog Tryz.f53.ntmps)=some (er Om):=by kernel_rfl
theorem Xp:trR Tryz.prog Tryz.f53.results.toList=some Oc:=by kernel_rfl
def QY:=Ac Lr.eq_1
def Q5:=Ac J7.eq_1
def EP:=Ac Ff.eq_1
def Q8:=Ac KI.eq_1
def QL:=Ac Kr.eq_1
def QZ:=Ac KC.eq_1
def Rl:=Ac Kv.eq_1
def Cb:=Ac J5.eq_1
def BZ:=Ac KQ.eq_1
def BL:=Ac IQ.eq_1
def BM:=Ac Ja.eq_1
def PX:=Ac Ji.eq_1
def F9:=Ac IL.eq_1
def Qw:=Ac Jr.eq_1
def EF:=Ac IK.eq_1
def Qz:=Ac Jq.eq_1
def P5:=Ac IW.eq_1
def Qh:=Ac Jf.eq_1
def Gn:=Ac Jl.eq_1
def PU:=Ac IV.eq_1
def VD:=Ac Om.eq_1
theorem EC {K:TV→Prop} {e:Env} {H:List Ob}:res Oc e H K=res [.tmp 2,.tmp 3] e H K:=Aa rfl
def WZ:=Dj 101 Tryz.func53 XI Xp rfl
def Iu:Af := .seq (.block 1 (.draw 6 [mv_ 28 5,mv_ 29 0,mv_ 30 6,po_ 31 (.idxA 2 (.t 29) (.t 30)),po_ 32 (.fieldA 0 0 (.t 31)),po_ 33 (.load false 1 (.t 32)),mv_ 34 0,mv_ 35 6,po_ 36 (.idxA 2 (.t 34) (.t 35)),po_ 37 (.fieldA 1 1 (.t 36)),po_ 38 (.load false 1 (.t 37)),⟨some 39,.p (.build [.val (.string (str [])),.val (.int .i64 ((0:Nat):Int))] [1,1] [⟨0,.t 33⟩,⟨1,.t 38⟩]),none⟩,⟨some 40,.s (.bslice 2 1 (.agg [.val (.string (str [])),.val (.int .i64 ((0:Nat):Int))]) [⟨0,.t 39⟩]),none⟩,so_ 41 (.app 2 24 59 (.t 28) (.t 40)),mv_ 5 41] [0,1,5,6]))
 (.ops [mv_ 26 6,po_ 27 (.bin 3 .add (.t 26) (ci_ 1)),mv_ 6 27] [0,1,5,6])
def Ii:Af := .seq (.seq (.ops [mv_ 22 6,mv_ 23 0,po_ 24 (.lenV (.t 23)),po_ 25 (.bin 3 .lss (.t 22) (.t 24))] [0,1,5,6,25])
 (.cond (.t 25)
 (.skip)
 (.exit 0)))
 Iu
def HY:Af := .block 0 (.own 5 2 (.loop [0,1,5,6] Ii))
def IA:Af := .seq (.ops [mv_ 67 12,mv_ 68 67,⟨some 69,.p (.mov (.t 7)),some ⟨68,true⟩⟩,⟨some 70,.p (.lenV (.t 69)),some ⟨68,true⟩⟩,⟨some 71,.p (.bin 3 .eql (.t 70) (ci_ 0)),some ⟨68,true⟩⟩,po_ 72 (.pick (.t 68) (.t 71) (.c (.bool false))),mv_ 4 72] [4])
 (.ret)
def Ik:Af := .seq (.seq (.ops [mv_ 65 10,po_ 66 (.bin 3 .neq (.t 65) (ci_ 0))] [7,12,66])
 (.cond (.t 66)
 IA
 (.skip)))
 (.seq (.ops [mv_ 73 7,so_ 74 (.call 25 [.t 73]),mv_ 13 74] [12,13])
 (.seq (.ops [mv_ 75 12,mv_ 76 75,⟨some 77,.p (.mov (.t 13)),some ⟨76,true⟩⟩,po_ 78 (.pick (.t 76) (.t 77) (.c (.bool false))),mv_ 4 78] [4])
 (.ret)))
def Hf:Af := .seq (.ops [mv_ 63 1,so_ 64 (.call 25 [.t 63]),mv_ 12 64] [7,10,12])
 Ik
def IE:Af := .seq (.seq (.ops [mv_ 55 11,po_ 56 (.un .not (.t 55)),mv_ 57 56,⟨some 58,.p (.mov (.t 8)),some ⟨57,false⟩⟩,⟨some 59,.s (.call 11 [.t 58]),some ⟨57,false⟩⟩,⟨some 60,.p (.mov (.t 10)),some ⟨57,false⟩⟩,⟨some 61,.p (.bin 3 .neq (.t 59) (.t 60)),some ⟨57,false⟩⟩,po_ 62 (.pick (.t 57) (.c (.bool true)) (.t 61))] [1,7,10,62])
 (.cond (.t 62)
 (.seq (.ops [po_ 4 (.mov (.c (.bool false)))] [4])
  (.ret))
 (.skip)))
 Hf
def Hg:Af := .seq (.ops [mv_ 52 7,mv_ 53 9,so_ 54 (.call 10 [.t 52,.t 53]),mv_ 11 54] [1,7,8,10,11])
 IE
def Hq:Af := .seq (.ops [mv_ 48 5,so_ 49 (.call 24 [.t 48]),mv_ 47 49,po_ 50 (.ext 0 (.t 47)),po_ 51 (.ext 1 (.t 47)),mv_ 9 50,mv_ 10 51] [1,7,8,9,10])
 Hg
def Gi:Af := .seq (.ops [mv_ 43 0,so_ 44 (.call 23 [.t 43]),mv_ 42 44,po_ 45 (.ext 0 (.t 42)),po_ 46 (.ext 1 (.t 42)),mv_ 7 45,mv_ 8 46] [1,5,7,8])
 Hq
def Gl:Af := .seq (.seq (.ops [po_ 6 (.mov (ci_ 0))] [0,1,5,6])
 HY)
 Gi
def Gg:Af := .seq (.ops [po_ 5 (.mov (.c (.slice none 0 0)))] [0,1,5])
 Gl
def Gv:Af := .seq (.seq (.ops [mv_ 14 0,po_ 15 (.lenV (.t 14)),po_ 16 (.bin 3 .gtr (.t 15) (ci_ 60)),mv_ 17 16,⟨some 18,.p (.mov (.t 1)),some ⟨17,false⟩⟩,⟨some 19,.p (.lenV (.t 18)),some ⟨17,false⟩⟩,⟨some 20,.p (.bin 3 .gtr (.t 19) (ci_ 6000)),some ⟨17,false⟩⟩,po_ 21 (.pick (.t 17) (.c (.bool true)) (.t 20))] [0,1,21])
 (.cond (.t 21)
 (.seq (.ops [po_ 4 (.mov (.c (.bool true)))] [4])
  (.ret))
 (.skip)))
 Gg
def L6:Af := .seq (.ops [po_ 4 (.mov (.c (.bool false)))] [0,1])
 Gv
def LP:List VR:=[.tmp 4]
theorem VB:Tryz.f6.body.bind (trC Tryz.prog Tryz.f6.ntmps)=some (er L6):=by kernel_rfl
theorem Vr:trR Tryz.prog Tryz.f6.results.toList=some LP:=by kernel_rfl
def OM:=Ac Iu.eq_1
def FM:=Ac Ii.eq_1
def OV:=Ac HY.eq_1
def OD:=Ac IA.eq_1
def FB:=Ac Ik.eq_1
def FU:=Ac Hf.eq_1
def FO:=Ac IE.eq_1
def FK:=Ac Hg.eq_1
def FD:=Ac Hq.eq_1
def NV:=Ac Gi.eq_1
def NU:=Ac Gl.eq_1
def NS:=Ac Gg.eq_1
def NT:=Ac Gv.eq_1
def TC:=Ac L6.eq_1
theorem Df {K:TV→Prop} {e:Env} {H:List Ob}:res LP e H K=res [.tmp 4] e H K:=Aa rfl
def U7:=Dj 79 Tryz.func6 VB Vr rfl
def Nu:Af := .seq (.block 1 (.seq (.draw 18 [mv_ 46 4,mv_ 47 9,po_ 48 (.idxA 2 (.t 46) (.t 47)),po_ 49 (.fieldA 0 0 (.t 48)),po_ 50 (.load false 1 (.t 49)),mv_ 51 7,mv_ 52 9,po_ 53 (.idxA 2 (.t 51) (.t 52)),po_ 54 (.fieldA 0 0 (.t 53)),po_ 55 (.load false 1 (.t 54)),po_ 56 (.bin 9 .neq (.t 50) (.t 55)),mv_ 57 56,⟨some 58,.p (.mov (.t 4)),some ⟨57,false⟩⟩,⟨some 59,.p (.mov (.t 9)),some ⟨57,false⟩⟩,⟨some 60,.p (.idxA 2 (.t 58) (.t 59)),some ⟨57,false⟩⟩,⟨some 61,.p (.fieldA 1 1 (.t 60)),some ⟨57,false⟩⟩,⟨some 62,.p (.load false 1 (.t 61)),some ⟨57,false⟩⟩,⟨some 63,.p (.mov (.t 7)),some ⟨57,false⟩⟩,⟨some 64,.p (.mov (.t 9)),some ⟨57,false⟩⟩,⟨some 65,.p (.idxA 2 (.t 63) (.t 64)),some ⟨57,false⟩⟩,⟨some 66,.p (.fieldA 1 1 (.t 65)),some ⟨57,false⟩⟩,⟨some 67,.p (.load false 1 (.t 66)),some ⟨57,false⟩⟩,⟨some 68,.p (.bin 3 .neq (.t 62) (.t 67)),some ⟨57,false⟩⟩,po_ 69 (.pick (.t 57) (.c (.bool true)) (.t 68))] [4,7,9,69])
 (.cond (.t 69)
 (.seq (.ops [po_ 2 (.mov (.c (.bool false)))] [2])
  (.ret))
 (.skip))))
 (.ops [mv_ 44 9,po_ 45 (.bin 3 .add (.t 44) (ci_ 1)),mv_ 9 45] [4,7,9])
def NH:Af := .seq (.seq (.ops [mv_ 40 9,mv_ 41 4,po_ 42 (.lenV (.t 41)),po_ 43 (.bin 3 .lss (.t 40) (.t 42))] [4,7,9,43])
 (.cond (.t 43)
 (.skip)
 (.exit 0)))
 Nu
def NC:Af := .block 0 (.loop [4,7,9] NH)
def MZ:Af := .seq (.ops [po_ 2 (.mov (.c (.bool true)))] [2])
 (.ret)
def Na:Af := .seq (.seq (.ops [po_ 9 (.mov (ci_ 0))] [4,7,9])
 NC)
 MZ
def Nw:Af := .seq (.seq (.ops [mv_ 25 6,po_ 26 (.un .not (.t 25)),mv_ 27 26,⟨some 28,.p (.mov (.t 5)),some ⟨27,false⟩⟩,⟨some 29,.s (.call 11 [.t 28]),some ⟨27,false⟩⟩,⟨some 30,.p (.mov (.t 8)),some ⟨27,false⟩⟩,⟨some 31,.p (.bin 3 .neq (.t 29) (.t 30)),some ⟨27,false⟩⟩,po_ 32 (.pick (.t 27) (.c (.bool true)) (.t 31)),mv_ 33 32,⟨some 34,.p (.mov (.t 4)),some ⟨33,false⟩⟩,⟨some 35,.p (.lenV (.t 34)),some ⟨33,false⟩⟩,⟨some 36,.p (.mov (.t 7)),some ⟨33,false⟩⟩,⟨some 37,.p (.lenV (.t 36)),some ⟨33,false⟩⟩,⟨some 38,.p (.bin 3 .neq (.t 35) (.t 37)),some ⟨33,false⟩⟩,po_ 39 (.pick (.t 33) (.c (.bool true)) (.t 38))] [4,7,39])
 (.cond (.t 39)
 (.seq (.ops [po_ 2 (.mov (.c (.bool false)))] [2])
  (.ret))
 (.skip)))
 Na
def ND:Af := .seq (.ops [mv_ 21 0,so_ 22 (.call 53 [.t 21]),mv_ 20 22,po_ 23 (.ext 0 (.t 20)),po_ 24 (.ext 1 (.t 20)),mv_ 7 23,mv_ 8 24] [4,5,6,7,8])
 Nw
def NG:Af := .seq (.ops [mv_ 17 3,mv_ 18 0,so_ 19 (.call 19 [.t 17,.t 18]),mv_ 6 19] [0,4,5,6])
 ND
def NE:Af := .seq (.ops [mv_ 13 3,so_ 14 (.call 52 [.t 13]),mv_ 12 14,po_ 15 (.ext 0 (.t 12)),po_ 16 (.ext 1 (.t 12)),mv_ 4 15,mv_ 5 16] [0,3,4,5])
 NG
def L8:Af := .seq (.ops [mv_ 10 0,so_ 11 (.call 17 [.t 10]),mv_ 3 11] [0,3])
 NE
def Tq:Af := .seq (.ops [po_ 2 (.mov (.c (.bool false)))] [0])
 L8
def SS:List VR:=[.tmp 2]
theorem AaA:Tryz.f25.body.bind (trC Tryz.prog Tryz.f25.ntmps)=some (er Tq):=by kernel_rfl
theorem AaS:trR Tryz.prog Tryz.f25.results.toList=some SS:=by kernel_rfl
def Ue:=Ac Nu.eq_1
def Fh:=Ac NH.eq_1
def Ky:=Ac NC.eq_1
def KO:=Ac MZ.eq_1
def La:=Ac Na.eq_1
def KA:=Ac Nw.eq_1
def KL:=Ac ND.eq_1
def J6:=Ac NG.eq_1
def TK:=Ac NE.eq_1
def Tv:=Ac L8.eq_1
def Xx:=Ac Tq.eq_1
theorem Oe {K:TV→Prop} {e:Env} {H:List Ob}:res SS e H K=res [.tmp 2] e H K:=Aa rfl
def Y2:=Dj 70 Tryz.func25 AaA AaS rfl
def C9:Af := .seq (.ops [po_ 2 (.mov (.c (.slice none 0 0)))] [0])
 (.seq (.ops [mv_ 3 0,mv_ 4 0,po_ 5 (.lenV (.t 4)),mv_ 6 0,po_ 7 (.lenV (.t 6)),po_ 8 (.gen (.sl3 2) [.t 3,.c (.int .i64 ((0:Nat):Int)),.t 5,.t 7]),mv_ 2 8] [2])
 (.ret))
def CW:List VR:=[.tmp 2]
theorem F8:Tryz.f85.body.bind (trC Tryz.prog Tryz.f85.ntmps)=some (er C9):=by kernel_rfl
theorem F5:trR Tryz.prog Tryz.f85.results.toList=some CW:=by kernel_rfl
def Fz:=Ac C9.eq_1
theorem Fq {K:TV→Prop} {e:Env} {H:List Ob}:res CW e H K=res [.tmp 2] e H K:=Aa rfl
def FZ:=(And.intro @Fz @Fq)
def FI:=Dj 9 Tryz.func85 F8 F5 rfl
end
section
open Go.RowKit
variable [AQ]
abbrev StD:=List UInt8×Int
def stT (s:StD):TV := .agg [ts s.1,i64 s.2]
theorem Ayb (s:StD):BC Tryz.prog 49 [stT s] (fun r=>r=ts s.1):=by
 refine Am.toPureV (Ud (by simp) ?_)
 obtain ⟨n,e⟩:=s
 simp -dsimp (disch:=first | assumption | omega | (simp only [Ae];try omega)) only [↓Ai,Ad,Ag,Ah,eq_self,Nat.reduceEqDiff,↓reduceIte,stT,↓VE]
def ET (l:List StD):List (List UInt8):=l.map (·.1)
theorem Axu (l:List StD) (hl:l.length≤1000000):BC Tryz.prog 48 [.sl 2 (l.map stT),i64 ((500:Nat):Int),.val (.func (.func 49) #[] #[])] (fun r=>r=tb (decide ((ET l).Nodup∧l.length≤500))):=by
 refine Am.toPureV (KU (by simp) ?_)
 generalize hB:decide ((ET l).Nodup∧l.length≤500)=B
 simp -dsimp (disch:=first | assumption | omega | (simp only [Ae];try omega)) only [↓Ai,Ad,Ag,Ah,eq_self,Nat.reduceEqDiff,↓reduceIte,Nat.reduceAdd,reduceCtorEq,↓JH,↓GU,↓G8,↓GI]
 refine Fg (fun q e H=>∃ (i:Nat) (es:List (List UInt8×TV)),q=l.length - i∧i≤l.length∧AqH es ((ET l).take i)∧H[0]?=some (.mpo .str es)∧e=[(0,.sl 2 (l.map stT)),(1,i64 ((500:Nat):Int)),(2,.val (.func (.func 49) #[] #[])),(7,.mp 0 0),(11,.sl 2 (l.map stT)),(12,i64 (l.length:Int)),(13,i64 (i:Int))]) l.length ?_ ?_
 ·exact ⟨0,[],rfl,Nat.zero_le _,AqH.nil,rfl,by simp [forget,get]⟩
 rintro q e H ⟨i,es,rfl,hi,hS,hH,rfl⟩
 have hHl:0<H.length:=(List.getElem?_eq_some_iff.1 hH).1
 have hnl:(ET l).length=l.length:=by simp [ET]
 by_cases hil:i<l.length
 case neg =>
  have hi2:i=l.length:=by omega
  rw [List.take_of_length_le (by omega)] at hS
  have h1:=hS.nd
  have h2:=hS.le
  rw [hnl] at h1 h2
  by_cases he:es.length=l.length
  ·by_cases h5:l.length≤500
   ·simp -dsimp (disch:=first | assumption | omega | (simp only [Ae];try omega)) only [↓Ai,Ad,Ag,Ah,eq_self,Nat.reduceEqDiff,↓reduceIte,reduceCtorEq,hH,he,↓Bi,↓Bj,↓BQ,↓CE]
    rw [←hB,decide_eq_true (show (ET l).Nodup∧l.length≤500 from ⟨h1.1 he,h5⟩),decide_eq_true h5]
   ·simp -dsimp (disch:=first | assumption | omega | (simp only [Ae];try omega)) only [↓Ai,Ad,Ag,Ah,eq_self,Nat.reduceEqDiff,↓reduceIte,reduceCtorEq,hH,he,h5,↓Bi,↓Bj,↓BQ,↓CE]
    rw [←hB,decide_eq_false fun h=>h5 h.2]
  ·simp -dsimp (disch:=first | assumption | omega | (simp only [Ae];try omega)) only [↓Ai,Ad,Ag,Ah,eq_self,Nat.reduceEqDiff,↓reduceIte,reduceCtorEq,hH,he,↓Bi,↓Bj,↓BQ,↓CE]
   rw [←hB,decide_eq_false fun h=>he (h1.2 h.1)]
 obtain ⟨⟨n,x⟩,hr⟩:∃ r,l[i]?=some r:=⟨_,List.getElem?_eq_getElem hil⟩
 have hg:(l.map stT)[i]?=some (.agg [ts n,i64 x]):=by rw [List.getElem?_map,hr]; rfl
 have hcl:=hS.cnt n
 have hadd:=hS.add n
 have hts:(ET l).take (i+1)=(ET l).take i++[n]:=by rw [List.take_add_one]; unfold ET; rw [List.getElem?_map,hr]; rfl
 rw [←hts] at hadd
 have hcount:((ET l).take i).count n≤i:=by have:=List.count_le_length (a:=n) (l:=(ET l).take i); rw [List.length_take] at this; omega
 generalize ((ET l).take i).count n=c at *
 simp -dsimp (disch:=first | assumption | omega | (simp only [Ae];try omega)) only [↓Ai,Ad,Ag,Ah,eq_self,Nat.reduceEqDiff,↓reduceIte,Nat.reduceAdd,reduceCtorEq,hg,↓Bi,↓Bj,↓GG]
 refine ⟨by kernel_rfl,AbK ((Ayb (n,x)).calls rfl fun r hr => ?_)⟩
 subst hr
 have hA:∀ T:List Ob,(H++T)[0]?=some (.mpo .str es):=fun T=>by rw [List.getElem?_append_left hHl]; exact hH
 simp -dsimp (disch:=first | assumption | omega | (simp only [Ae];try omega)) only [↓Ai,Ad,Ag,Ah,eq_self,Nat.reduceEqDiff,↓reduceIte,reduceCtorEq,hA,hcl]
 exact AB (l.length - (i+1)) (by omega) (by simp) ⟨i+1,_,rfl,by omega,hadd,by rw [AqM hHl],by simp [forget,get]⟩
end
section
open Go.RowKit
variable [AQ]
def wOk:List UInt8:=[111,107]
def wNg:List UInt8:=[110,103]
def Aan (s:StD):List (List UInt8):=if s.2=0 then [wOk,s.1] else [wNg,s.1,Lib.itoa s.2]
def AaO (l:List StD):List UInt8:=Ab6 (l.map Aan)++Ro
def AeL (s:StD):Prop:=AmZ s.1∧0≤s.2∧s.2≤999
def Nz (l:List StD):Prop:=((ET l).Nodup∧l.length≤500)∧∀ s∈l,AeL s
def d3 (n:Nat):List UInt8:=if n<10 then [UInt8.ofNat (48+n)] else if n<100 then [UInt8.ofNat (48+n / 10),UInt8.ofNat (48+n % 10)] else [UInt8.ofNat (48+n / 100),UInt8.ofNat (48+n / 10 % 10),UInt8.ofNat (48+n % 10)]
theorem AoJ {n:Nat} (h:n<1000):Lib.decDigits n=d3 n:=by
 unfold d3
 by_cases h1:n<10
 ·rw [if_pos h1,Lib.decDigits_one h1]
 rw [if_neg h1,Lib.decDigits.eq_1 n,dif_neg h1]
 by_cases h2:n<100
 ·rw [if_pos h2,Lib.decDigits_one (by omega)]; rfl
 rw [if_neg h2,Lib.decDigits.eq_1 (n / 10),dif_neg (by omega),Lib.decDigits_one (by omega),show n / 10 / 10=n / 100 by omega]; rfl
theorem Af4 {n:Nat} (h:n<1000):Lib.itoa (n:Int)=d3 n:=by rw [Lib.itoa_nonneg,AoJ h]
def MM (s:List UInt8):Int:=match Lib.atoiAll s with
 | .ok v=>v
 | .«syntax» => 0
 | .range=>Lib.atoiSat s
def AbX (s:List UInt8):Int:=(s.take 4).foldl (fun n c=>n*10+(c.toNat:Int) - 48) 0
theorem AqU:∀ n,n<1000→Lib.atoiAll (d3 n) = .ok (n:Int):=by decide +kernel
theorem Asp:∀ n,n<1000→AbX (d3 n)=(n:Int):=by decide +kernel
theorem AoF:∀ n,n<1000→(d3 n).all (fun c=>c != 32)=true∧(d3 n).length≤3:=by decide +kernel
def AmD (f:List UInt8→Int):Prop:=∀ n:Nat,n<1000→f (d3 n)=(n:Int)
theorem Ad3:AmD MM:=fun n h=>by unfold MM; rw [AqU n h]
theorem AfH:AmD AbX:=Asp
theorem AdP {s:StD} (h:AeL s):∃ n:Nat,n<1000∧s.2=(n:Int):=⟨s.2.toNat,by have:=h.2; omega,by have:=h.2; omega⟩
theorem Wu {a b c:List UInt8}:Ip [a,b,c]=a++32::(b++32::c)++[10]:=by
 unfold Ip
 rw [Rw,Rw,Xw]
theorem Ad9 {s:StD} (h:AeL s):(Aan s≠[]∧∀ w∈Aan s,AnH w)∧(Ip (Aan s)).length≤1000:=by
 obtain ⟨n,hn,e⟩:=AdP h
 have hp:=AeQ h.1
 have hw:AnH wOk∧AnH wNg:=⟨by intro c hc; revert c; decide,by intro c hc; revert c; decide⟩
 unfold Aan
 split
 ·refine ⟨⟨by simp,fun w hw' => ?_⟩,by rw [AbC]; simp [wOk]; omega⟩
  simp only [List.mem_cons,List.mem_nil_iff,or_false] at hw'
  rcases hw' with rfl | rfl
  ·exact hw.1
  ·exact hp.2
 ·have hd:=AoF n hn
  rw [e,Af4 hn]
  refine ⟨⟨by simp,fun w hw' => ?_⟩,by rw [Wu]; simp [wNg]; omega⟩
  simp only [List.mem_cons,List.mem_nil_iff,or_false] at hw'
  rcases hw' with rfl | rfl | rfl
  ·exact hw.2
  ·exact hp.2
  ·intro c hc; simpa using List.all_eq_true.1 hd.1 c hc
theorem Aem {l:List StD} (h:Nz l):AX ((l.map Aan).map Ip++[[]]) (AaO l) :=
 (Aka fun ws hw=>by obtain ⟨s,hs,rfl⟩:=List.mem_map.1 hw; exact (Ad9 (h.2 s hs)).2).app Ah6
def Lu (f:List UInt8→Int) (o:List StD) (w:List (List UInt8)):List StD:=match w with
 | [a,b]=>if a=wOk then o++[(b,0)] else o
 | [a,b,c]=>if a=wNg then o++[(b,f c)] else o
 | _=>o
def Yp (f:List UInt8→Int) (ls:List (List UInt8)):List StD:=(ls.map KZ).foldl (Lu f) []
theorem Ag2 {f:List UInt8→Int} (hf:AmD f):∀ {l o:List StD},(∀ s∈l,AeL s)→(l.map Aan).foldl (Lu f) o=o++l
 | [],o,_=>by simp
 | s::l,o,h=>by
  obtain ⟨n,hn,e⟩:=AdP (h s (by simp))
  have hs:Lu f o (Aan s)=o++[s]:=by
   obtain ⟨nm,x⟩:=s
   simp only at e
   subst e
   unfold Aan Lu
   by_cases h0:(n:Int)=0
   ·simp [h0]
   ·simp only [h0,if_false,Af4 hn,if_true,hf n hn]
  rw [List.map_cons,List.foldl_cons,Ag2 hf (fun x hx=>h x (by simp [hx])),hs]
  simp
theorem Vh {f:List UInt8→Int} (hf:AmD f) {ls:List (List UInt8)} {b:List UInt8} {l:List StD} (hl:AX ls b) (h:Nz l) (e:AaO l=b):Yp f ls=l:=by
 subst e
 rw [Ui hl (Aem h)]
 unfold Yp
 rw [List.map_append,AgB (fun ws hw=>by obtain ⟨s,hs,rfl⟩:=List.mem_map.1 hw; exact (Ad9 (h.2 s hs)).1),List.foldl_append,Ag2 hf h.2]
 rfl
theorem Ag6 {b:List UInt8} (hl:∀ ls,¬ AX ls b):∀ l,Nz l→AaO l≠b:=fun l h e=>hl _ (e▸Aem h)
end
section
open Go.RowKit
variable [AQ] [E8] [Ap]
def Aea (l:List StD):Prop:=l.length≤20000∧∀ s∈l,s.1.length≤2000000 ∧ -9223372036854775808≤s.2∧s.2≤9223372036854775807
def AvI (l:List StD) (r:TV):Prop:=(Nz l→r = .tup [slB (AaO l),.val .nilIface])∧(¬ Nz l→r = .tup [U8,eno 111])
def AgI (l:List StD) (i:Nat):Prop:=((ET l).Nodup∧l.length≤500)∧∀ s∈l.take i,AeL s
theorem Ako {l:List StD} {i:Nat} {s:StD} (h:l[i]?=some s):AgI l (i+1)↔AgI l i∧AeL s:=by
 unfold AgI
 rw [List.take_add_one,h]
 constructor
 ·rintro ⟨h1,h2⟩
  exact ⟨⟨h1,fun x hx=>h2 x (by simp [hx])⟩,h2 s (by simp)⟩
 ·rintro ⟨⟨h1,h2⟩,h3⟩
  refine ⟨h1,fun x hx => ?_⟩
  rcases List.mem_append.1 hx with hx | hx
  ·exact h2 x hx
  ·simp at hx; subst hx; exact h3
theorem Ag7 {l:List StD}:AgI l l.length↔Nz l:=by unfold AgI Nz; rw [List.take_length]
theorem ZQ (l:List StD) (hf:Aea l):N8 Tryz.prog 23 [.sl 2 (l.map stT)] (AvI l):=by
 refine Am.toFreshV (WH (by simp) ?_)
 obtain ⟨f1,f2⟩:=hf
 simp -dsimp (disch:=first | assumption | omega | (simp only [Ae];try omega)) only [↓Ai,Ad,Ag,Ah,eq_self,↓reduceIte,reduceCtorEq,↓Vw,↓Qi,↓Qn]
 refine (Axu l (by omega)).calls (by rfl) fun r hr => ?_
 subst hr
 simp -dsimp (disch:=first | assumption | omega | (simp only [Ae];try omega)) only [↓Ai,Ad,Ag,Ah,eq_self,Nat.reduceEqDiff,↓reduceIte]
 refine ArK (z:=0) (l:=[]) (ok:=True) (n:=0) (TSt.new rfl (by omega)) fun H1 m1 m2 m3 => ?_
 have hH1:H1.length=1:=by simpa using m3
 simp -dsimp (disch:=first | assumption | omega | (simp only [Ae];try omega)) only [↓Ai,Ad,Ag,Ah,eq_self,Nat.reduceEqDiff,↓reduceIte,reduceCtorEq,↓Qy,↓Ri]
 refine Fg (fun q e G=>∃ (i:Nat),q=l.length - i∧i≤l.length∧TSt 0 0 G (Ab6 ((l.take i).map Aan)) (AgI l i) (i*3000015)∧1≤G.length∧e=[(4,.op 0 0 []),(13,.sl 2 (l.map stT)),(14,i64 (l.length:Int)),(15,i64 (i:Int))]) l.length ?_ ?_
 ·refine ⟨0,rfl,Nat.zero_le _,?_,m1.lt,by simp [forget,get]⟩
  refine (m1.iff ?_).le (Nat.zero_le _)
  rw [decide_eq_true_eq]
  simp [AgI]
 rintro q e G ⟨i,rfl,hi,hT,hGn,rfl⟩
 by_cases hil:i<l.length
 case neg =>
  have hi2:i=l.length:=by omega
  subst hi2
  rw [List.take_length] at hT
  simp -dsimp (disch:=first | assumption | omega | (simp only [Ae];try omega)) only [↓Ai,Ad,Ag,Ah,eq_self,Nat.reduceEqDiff,↓reduceIte,↓H7,↓IC,↓Rx]
  refine AuK hT (by omega) fun H2 m1 m2 m3 => ?_
  simp -dsimp (disch:=first | assumption | omega | (simp only [Ae];try omega)) only [↓Ai,Ad,Ag,Ah,eq_self,Nat.reduceEqDiff,↓reduceIte]
  refine Axa m1 (by simp [Ro]) fun x y hd' => ?_
  rcases hd' with ⟨h1,⟨j,v,rfl,hj⟩,rfl⟩ | ⟨h1,rfl,rfl⟩
  ·have hkt:((AaO l).map by8).take (AaO l).length=(AaO l).map by8:=List.take_of_length_le (by simp)
   have e:Ab6 (l.map Aan)++Ro=AaO l:=rfl
   rw [e] at hj ⊢
   simp -dsimp (disch:=first | assumption | omega | (simp only [Ae];try omega)) only [↓Ai,Ad,Ag,Ah,eq_self,Nat.reduceEqDiff,↓reduceIte,hj,hkt,↓LK]
   exact ⟨fun _=>rfl,fun h=>absurd (Ag7.1 h1) h⟩
  ·simp -dsimp (disch:=first | assumption | omega | (simp only [Ae];try omega)) only [↓Ai,Ad,Ag,Ah,eq_self,Nat.reduceEqDiff,↓reduceIte,↓LK]
   exact ⟨fun h=>absurd (Ag7.2 h) h1,fun _=>rfl⟩
 obtain ⟨⟨nm,x⟩,hr⟩:∃ r,l[i]?=some r:=⟨_,List.getElem?_eq_getElem hil⟩
 have hrm:=f2 _ (List.mem_of_getElem? hr)
 simp only at hrm
 obtain ⟨hnl,hx1,hx2⟩:=hrm
 have hg:(l.map stT)[i]?=some (.agg [ts nm,i64 x]):=by rw [List.getElem?_map,hr]; rfl
 have hra:=Ako hr
 have hsn:l.take (i+1)=l.take i++[(nm,x)]:=by rw [List.take_add_one,hr]; rfl
 simp -dsimp (disch:=first | assumption | omega | (simp only [Ae];try omega)) only [↓Ai,Ad,Ag,Ah,eq_self,Nat.reduceEqDiff,↓reduceIte,Nat.reduceAdd,hg,↓H7,↓IC,↓QN,↓QW]
 refine (Ap5 nm (by omega)).calls rfl fun r hr' => ?_
 subst hr'
 have hTg:=hT.grow [Ob.obj 0 (.agg [ts nm,i64 x])]
 have hGl:0<G.length:=hT.lt
 have hGk:(G++[Ob.obj 0 (.agg [ts nm,i64 x])])[G.length]?=some (.obj 0 (.agg [ts nm,i64 x])):=by simp
 have h4:nmB nm=false∨(nmB nm=true∧x<0)∨(nmB nm=true∧0≤x):=by
  cases nmB nm
  ·exact .inl rfl
  ·rcases Int.lt_or_le x 0 with h | h
   ·exact .inr (.inl ⟨rfl,h⟩)
   ·exact .inr (.inr ⟨rfl,h⟩)
 rcases h4 with hnb | ⟨hnb,hx0⟩ | ⟨hnb,hx0⟩
 case' inl =>
  rw [hnb]
  have hb:AgI l i∧false=true↔AgI l (i+1):=by
   rw [hra]; unfold AeL; rw [←Zy,hnb]; simp
  simp -dsimp (disch:=first | assumption | omega | (simp only [Ae];try omega)) only [↓Ai,Ad,Ag,Ah,eq_self,Nat.reduceEqDiff,↓reduceIte]
 case' inr.inl =>
  rw [hnb]
  have hb:AgI l i∧false=true↔AgI l (i+1):=by
   rw [hra]; unfold AeL; rw [←Zy,hnb]; simp; omega
  simp -dsimp (disch:=first | assumption | omega | (simp only [Ae];try omega)) only [↓Ai,Ad,Ag,Ah,eq_self,Nat.reduceEqDiff,↓reduceIte,Nat.reduceAdd,hGk]
 case' inr.inr =>
  rw [hnb]
  have hb:AgI l i∧decide (x≤((999:Nat):Int))=true↔AgI l (i+1):=by
   rw [hra]; unfold AeL; rw [←Zy,hnb,decide_eq_true_eq]; simp [hx0]
  simp -dsimp (disch:=first | assumption | omega | (simp only [Ae];try omega)) only [↓Ai,Ad,Ag,Ah,eq_self,Nat.reduceEqDiff,↓reduceIte,Nat.reduceAdd,hGk]
 all_goals
  refine AbK (ArK hTg fun H2 m1 m2 m3 => ?_)
  have m1':=m1.iff hb
  have m3':H2.length=G.length+1:=by simpa using m3
  have hK:H2[G.length]?=some (.obj 0 (.agg [ts nm,i64 x])):=(m2 _ (by omega)).trans hGk
  have fin:∀ H3,TSt 0 0 H3 (Ab6 ((l.take i).map Aan)++BG (Ip (Aan (nm,x)))) (AgI l (i+1)) (i*3000015+3000015)→1≤H3.length→TSt 0 0 H3 (Ab6 ((l.take (i+1)).map Aan)) (AgI l (i+1)) ((i+1)*3000015):=by
   intro H3 n1 _
   rw [hsn,List.map_append,Ad2,List.map_cons,List.map_nil,Adw]
   exact n1.le (by omega)
  by_cases he:x=0
  ·first
    | (exfalso; omega)
    |
     have hst:Aan (nm,x)=[wOk,nm]:=by unfold Aan; rw [if_pos he]
     simp -dsimp (disch:=first | assumption | omega | (simp only [Ae];try omega)) only [↓Ai,Ad,Ag,Ah,eq_self,Nat.reduceEqDiff,↓reduceIte,Nat.reduceAdd,Nat.reduceLeDiff,hK,he,↓Iw,↓Iq]
     have hcat:(((List.replicate 2 (TV.val (Value.string (str [])))).set 0 (TV.val (Value.string (str [111,107])))).set 1 (ts nm))=([wOk,nm]:List (List UInt8)).map ts:=rfl
     rw [hcat]
     refine AbK (Axz (ws:=[wOk,nm]) (m1'.grow _) (by simp) (by simp) (by simp) (by rw [Rw,Xw]; simp [wOk]; omega) (by omega) fun H3 n1 n2 n3 => ?_)
     simp -dsimp (disch:=first | assumption | omega | (simp only [Ae];try omega)) only [↓Ai,Ad,Ag,Ah,eq_self,Nat.reduceEqDiff,↓reduceIte]
     rw [List.length_append,List.length_singleton] at n3
     rw [←hst] at n1
     exact AB (l.length - (i+1)) (by omega) (by omega) ⟨i+1,rfl,by omega,fin _ n1 (by omega),by omega,by simp [forget,get]⟩
  ·have hst:Aan (nm,x)=[wNg,nm,Lib.itoa x]:=by unfold Aan; rw [if_neg he]
   have hil2:=Lib.itoa_length_le x hx1 hx2
   simp -dsimp (disch:=first | assumption | omega | (simp only [Ae];try omega)) only [↓Ai,Ad,Ag,Ah,eq_self,Nat.reduceEqDiff,↓reduceIte,Nat.reduceAdd,hK,↓Iw,↓Iq,↓QO]
   refine ⟨_,(AvG x hx1 hx2).calls rfl fun r hr=>⟨hr,rfl⟩,?_⟩
   generalize Lib.itoa x=y at *
   simp -dsimp (disch:=first | assumption | omega | (simp only [Ae];try omega)) only [↓Ai,Ad,Ag,Ah,eq_self,Nat.reduceEqDiff,↓reduceIte,Nat.reduceLeDiff]
   have hcat:((((List.replicate 3 (TV.val (Value.string (str [])))).set 0 (TV.val (Value.string (str [110,103])))).set 1 (ts nm)).set 2 (ts y))=([wNg,nm,y]:List (List UInt8)).map ts:=rfl
   rw [hcat]
   refine AbK (Axz (ws:=[wNg,nm,y]) (m1'.grow _) (by simp) (by simp) (by simp) (by rw [Rw,Rw,Xw]; simp [wNg]; omega) (by omega) fun H3 n1 n2 n3 => ?_)
   simp -dsimp (disch:=first | assumption | omega | (simp only [Ae];try omega)) only [↓Ai,Ad,Ag,Ah,eq_self,Nat.reduceEqDiff,↓reduceIte]
   rw [List.length_append,List.length_singleton] at n3
   rw [←hst] at n1
   exact AB (l.length - (i+1)) (by omega) (by omega) ⟨i+1,rfl,by omega,fin _ n1 (by omega),by omega,by simp [forget,get]⟩
end
section
open Go.RowKit
variable [AQ]
theorem Yb {b:UInt8}:(∀ y:TV,y∈[TV.val (Value.int IntKind.u8 (b.toNat:Int))]→AfS y)=True:=by
 refine eq_true ?_
 intro y hy
 obtain rfl:=List.mem_singleton.1 hy
 exact AdM b
theorem Aoz {a b:TV}:(List.replicate 1 a).set 0 b=[b]:=by simp
theorem Ajk (n:Nat):(Lib.decDigits n).length≤n+1:=by
 induction n using Nat.strongRecOn with
 | _ n ih =>
  by_cases h:n<10
  ·rw [Lib.decDigits_one h]; simp
  ·rw [Lib.decDigits.eq_1 n,dif_neg h,List.length_append]
   have:=ih (n / 10) (by omega)
   simp only [List.length_cons,List.length_nil]; omega
theorem Aip (n:Nat) (hn:n≤1099511627776):BC Tryz.prog 51 [i64 (n:Int)] (fun r=>r=ts (Lib.decDigits n)):=by
 refine Am.toPureV (Abe (by simp) ?_)
 by_cases h0:n=0
 ·subst h0
  simp -dsimp (disch:=first | assumption | omega) only [↓Ai,Ad,Ag,Ah,eq_self,↓reduceIte,reduceCtorEq,↓JW]
  rw [Lib.decDigits_one (by omega)]
  rfl
 simp -dsimp (disch:=first | assumption | omega) only [↓Ai,Ad,Ag,Ah,eq_self,↓reduceIte,reduceCtorEq,↓JW]
 have dl:=Ajk n
 refine Fg (fun q e H=>∃ (m:Nat) (s:List UInt8),q=m∧m≤n∧((m=0∧s=Lib.decDigits n)∨(0<m∧Lib.decDigits n=Lib.decDigits m++s))∧e=[(0,i64 (m:Int)),(3,ts s)]∧H=[]) n ?_ ?_
 ·exact ⟨n,[],rfl,Nat.le_refl _,.inr ⟨by omega,by simp⟩,rfl,rfl⟩
 ·rintro q e H ⟨m,s,rfl,hmn,hm,rfl,rfl⟩
  have hsl:s.length≤n+1:=by
   rcases hm with ⟨_,rfl⟩ | ⟨_,h⟩
   ·exact dl
   ·rw [h,List.length_append] at dl; omega
  by_cases hpos:0<q
  ·have h48:(48+q % 10)<256:=by omega
   have hsl2:([UInt8.ofNat (48+q % 10)]:List UInt8).length+s.length≤9223372036854775807:=by simp only [List.length_cons,List.length_nil]; omega
   simp -dsimp (disch:=first | assumption | omega) only [↓Ai,Ad,Ag,Ah,eq_self,Nat.reduceEqDiff,↓reduceIte,reduceCtorEq,Nat.reduceLeDiff,↓JW,Aoz,Adb,Yb,AdF]
   refine Aqi (q / 10) 0 (by omega) (by omega) rfl rfl ⟨q / 10,[UInt8.ofNat (48+q % 10)]++s,rfl,by omega,?_,rfl,rfl⟩
   have hd:Lib.decDigits n=Lib.decDigits q++s:=by
    rcases hm with ⟨h,_⟩ | ⟨_,h⟩
    ·omega
    ·exact h
   by_cases h10:q<10
   ·refine .inl ⟨by omega,?_⟩
    rw [hd,Lib.decDigits_one h10,Nat.mod_eq_of_lt h10]
   ·refine .inr ⟨by omega,?_⟩
    rw [hd,Lib.decDigits,dif_neg h10,List.append_assoc]
  ·simp -dsimp (disch:=first | assumption | omega) only [↓Ai,Ad,Ag,Ah,eq_self,Nat.reduceEqDiff,↓reduceIte,reduceCtorEq,↓JW]
   rcases hm with ⟨_,rfl⟩ | ⟨h,_⟩
   ·rfl
   ·omega
end
section
open Go.RowKit
variable [AQ] [E8] [Ap]
def AoY (l:List StD) (r:TV):Prop:=(Nz l→r = .tup [slB (AaO l),i64 ((0:Nat):Int)])∧(¬ Nz l→r = .tup [U8,i64 ((111:Nat):Int)])
theorem Ahr {l:List StD} {k:Nat} {s:StD} (h:l[k]?=some s):(ET l)[k]?=some s.1:=by unfold ET; rw [List.getElem?_map,h]; rfl
theorem Aih {l:List StD} {i:Nat} {nm:List UInt8} {x:Int} (hi:l[i]?=some (nm,x)) (hl:l.length≤20000) {Q:VEx→Env→List Ob→Prop} {y:TV} {H:List Ob} {E:Env} (hE:forget [0,4,5,7] E=[(0,.sl 2 (l.map stT)),(4,y),(5,i64 (i:Int)),(7,i64 ((0:Nat):Int))])
  (hyes:(∀ k,k<i→(ET l)[k]?≠some nm)→∀ n m,Q (.exit 2) [(0,.sl 2 (l.map stT)),(4,y),(5,i64 (i:Int)),(7,n),(44,m)] H)
  (hno:(∃ k,k<i∧(ET l)[k]?=some nm)→Q .ret [(2,U8),(3,i64 ((111:Nat):Int))] H) :
  vwp Tryz.prog (.loop [0,4,5,7] EX) Q E H:=by
 have hil:=(List.getElem?_eq_some_iff.1 hi).1
 have hg:(l.map stT)[i]?=some (.agg [ts nm,i64 x]):=by rw [List.getElem?_map,hi]; rfl
 refine Fg (fun q e G=>∃ k:Nat,q=i - k∧k≤i∧(∀ j,j<k→(ET l)[j]?≠some nm)∧G=H∧e=[(0,.sl 2 (l.map stT)),(4,y),(5,i64 (i:Int)),(7,i64 (k:Int))]) i ⟨0,rfl,Nat.zero_le _,fun j h=>by omega,rfl,hE⟩ ?_
 rintro q e G ⟨k,rfl,hk,hn,rfl,rfl⟩
 by_cases hki:k<i
 case neg =>
  have hk2:k=i:=by omega
  subst hk2
  simp -dsimp (disch:=first | assumption | omega | (simp only [Ae];try omega)) only [↓Ai,Ad,Ag,Ah,eq_self,Nat.reduceEqDiff,↓reduceIte,reduceCtorEq,↓EE]
  exact hyes hn _ _
 obtain ⟨⟨kn,kx⟩,hq⟩:∃ r,l[k]?=some r:=⟨_,List.getElem?_eq_getElem (by omega)⟩
 have hgk:(l.map stT)[k]?=some (.agg [ts kn,i64 kx]):=by rw [List.getElem?_map,hq]; rfl
 have hnk:=Ahr hq
 by_cases he:kn=nm
 ·have het:(kn=nm)=True:=eq_true he
  simp -dsimp (disch:=first | assumption | omega | (simp only [Ae];try omega)) only [↓Ai,Ad,Ag,Ah,eq_self,Nat.reduceEqDiff,↓reduceIte,reduceCtorEq,hg,hgk,het,↓EE,↓Gh]
  exact hno ⟨k,hki,by rw [hnk,he]⟩
 ·simp -dsimp (disch:=first | assumption | omega | (simp only [Ae];try omega)) only [↓Ai,Ad,Ag,Ah,eq_self,Nat.reduceEqDiff,↓reduceIte,reduceCtorEq,hg,hgk,he,↓EE,↓Gh]
  refine AB (i - (k+1)) (by omega) (Nat.le_refl _) ⟨k+1,rfl,by omega,fun j hj => ?_,rfl,by simp [forget,get]⟩
  by_cases hjk:j=k
  ·subst hjk; rw [hnk]; exact fun e=>he (Option.some.inj e)
  ·exact hn j (by omega)
def Aic (l:List StD) (i:Nat):Prop:=(l.length≤500∧(ET (l.take i)).Nodup)∧∀ s∈l.take i,AeL s
theorem AkF {l:List StD} (h:Aic l l.length):Nz l:=by
 unfold Aic at h
 rw [List.take_length] at h
 exact ⟨⟨h.1.2,h.1.1⟩,h.2⟩
theorem AhP {l:List StD} {i:Nat} {s:StD} (h:Aic l i) (hi:l[i]?=some s) (h1:AeL s) (h2:∀ k,k<i→(ET l)[k]?≠some s.1):Aic l (i+1):=by
 unfold Aic at *
 have e:l.take (i+1)=l.take i++[s]:=by rw [List.take_add_one,hi]; rfl
 rw [e]
 refine ⟨⟨h.1.1,?_⟩,fun x hx => ?_⟩
 ·unfold ET
  rw [List.map_append,List.nodup_append]
  refine ⟨h.1.2,by simp,fun a ha b hb => ?_⟩
  simp at hb
  subst hb
  rintro rfl
  rw [List.map_take] at ha
  obtain ⟨k,hk,hka⟩:=List.getElem_of_mem ha
  rw [List.length_take] at hk
  refine h2 k (by omega) ?_
  unfold ET
  rw [List.getElem_take] at hka
  rw [List.getElem?_eq_getElem (by omega),hka]
 ·rcases List.mem_append.1 hx with hx | hx
  ·exact h.2 x hx
  ·simp at hx; subst hx; exact h1
theorem ArJ {l:List StD} {i k:Nat} {s:StD} (hi:l[i]?=some s) (hk:k<i) (h:(ET l)[k]?=some s.1):¬ Nz l:=by
 rintro ⟨⟨hn,_⟩,_⟩
 have h2:=Ahr hi
 obtain ⟨a1,a2⟩:=List.getElem?_eq_some_iff.1 h
 obtain ⟨b1,b2⟩:=List.getElem?_eq_some_iff.1 h2
 exact (List.pairwise_iff_getElem.1 hn) k i a1 b1 hk (by rw [a2,b2])
theorem XO (l:List StD) (hf:Aea l):N8 Tryz.prog 24 [.sl 2 (l.map stT)] (AoY l):=by
 refine Am.toFreshV (VG (by simp) ?_)
 obtain ⟨f1,f2⟩:=hf
 have no:¬ Nz l→∀ H',AkB F6 (fun x H'=>BD (frs H' x) (AoY l)) .ret [(2,U8),(3,i64 ((111:Nat):Int))] H':=by
  intro h1 H'
  simp -dsimp (disch:=first | assumption | omega | (simp only [Ae];try omega)) only [↓Ai,Ad,Ag,Ah,eq_self,Nat.reduceEqDiff,↓reduceIte,↓Lp]
  exact ⟨fun h=>absurd h h1,fun _=>rfl⟩
 by_cases h500:l.length≤500
 case neg =>
  simp -dsimp (disch:=first | assumption | omega | (simp only [Ae];try omega)) only [↓Ai,Ad,Ag,Ah,eq_self,Nat.reduceEqDiff,↓reduceIte,reduceCtorEq,↓Lh,↓FH,↓FT]
  exact no (fun h=>h500 h.1.2) _
 simp -dsimp (disch:=first | assumption | omega | (simp only [Ae];try omega)) only [↓Ai,Ad,Ag,Ah,eq_self,Nat.reduceEqDiff,↓reduceIte,reduceCtorEq,↓Lh,↓FH,↓FT,↓O0,↓OT]
 refine Fg (fun q e G=>∃ (i j v cp:Nat) (b:List UInt8),q=l.length - i∧i≤l.length∧b=Ab6 ((l.take i).map Aan)∧b.length≤i*1004∧Aic l i∧G[j]?=some (.obj v (.arr b.length 1 (b.map by8)))∧1≤G.length∧e=[(0,.sl 2 (l.map stT)),(4,.os 1 j v [] 0 b.length cp),(5,i64 (i:Int))]) l.length ?_ ?_
 ·exact ⟨0,0,0,0,[],rfl,Nat.zero_le _,rfl,by simp,⟨⟨h500,by simp [ET]⟩,by simp⟩,rfl,by simp,by simp [forget,get]⟩
 rintro q e G ⟨i,j,v,cp,b,rfl,hi,hB,hbl,hP,hGj,hGn,rfl⟩
 have hjl:=(List.getElem?_eq_some_iff.1 hGj).1
 have hbt:=List.take_of_length_le (l:=b.map by8) (i:=b.length) (by simp)
 by_cases hil:i<l.length
 case neg =>
  have hi2:i=l.length:=by omega
  subst hi2
  rw [List.take_length] at hB
  have hok:=AkF hP
  have hE:AaO l=b++Ro:=by rw [hB]; rfl
  have hSj:∀ o:Ob,(G.set j o)[j]?=some o:=fun o=>List.getElem?_set_self hjl
  have hc4:List.map by8 b++[by8 48,by8 48,by8 48,by8 48]=(AaO l).map by8:=by rw [hE,List.map_append]; rfl
  have hl4:(AaO l).length=b.length+4:=by rw [hE,List.length_append]; rfl
  have ht4:=List.take_of_length_le (l:=(AaO l).map by8) (i:=b.length+4) (by simp [hl4])
  simp -dsimp (disch:=first | assumption | omega | (simp only [Ae];try omega)) only [↓Ai,Ad,Ag,Ah,eq_self,Nat.reduceEqDiff,↓reduceIte,Nat.reduceAdd,reduceCtorEq,Nat.reduceLeDiff,AU,hGj,hbt,hSj,hc4,ht4,↓FQ,↓O5,↓Lp]
  exact ⟨fun _=>rfl,fun h=>absurd hok h⟩
 obtain ⟨⟨nm,x⟩,hr⟩:∃ r,l[i]?=some r:=⟨_,List.getElem?_eq_getElem hil⟩
 have hmem:=List.mem_of_getElem? hr
 have hrm:=f2 _ hmem
 simp only at hrm
 obtain ⟨hnl,hx1,hx2⟩:=hrm
 have hg:(l.map stT)[i]?=some (.agg [ts nm,i64 x]):=by rw [List.getElem?_map,hr]; rfl
 have hsn:l.take (i+1)=l.take i++[(nm,x)]:=by rw [List.take_add_one,hr]; rfl
 have bad:¬ AeL (nm,x)→¬ Nz l:=fun h k=>h (k.2 _ hmem)
 simp -dsimp (disch:=first | assumption | omega | (simp only [Ae];try omega)) only [↓Ai,Ad,Ag,Ah,eq_self,Nat.reduceEqDiff,↓reduceIte,reduceCtorEq,hg,↓FQ,↓OH]
 refine (AmA nm (by omega)).calls rfl fun r hr' => ?_
 subst hr'
 have h4:(nmB nm=false∧¬ AeL (nm,x))∨(nmB nm=true∧x<0∧¬ AeL (nm,x))∨(nmB nm=true∧0≤x∧999<x∧¬ AeL (nm,x))∨(nmB nm=true∧0≤x∧x≤999∧AeL (nm,x)):=by
  unfold AeL
  simp only
  rw [←Zy]
  cases nmB nm
  ·exact .inl ⟨rfl,by simp⟩
  ·simp only [true_and]
   omega
 rcases h4 with ⟨hnb,h⟩ | ⟨hnb,hx0,h⟩ | ⟨hnb,hx0,hx9,h⟩ | ⟨hnb,hx0,hx9,hS⟩
 ·rw [hnb]
  simp -dsimp (disch:=first | assumption | omega | (simp only [Ae];try omega)) only [↓Ai,Ad,Ag,Ah,eq_self,Nat.reduceEqDiff,↓reduceIte,reduceCtorEq,↓CP]
  exact no (bad h) _
 ·rw [hnb]
  simp -dsimp (disch:=first | assumption | omega | (simp only [Ae];try omega)) only [↓Ai,Ad,Ag,Ah,eq_self,Nat.reduceEqDiff,↓reduceIte,Nat.reduceAdd,reduceCtorEq,hg,↓CP]
  exact no (bad h) _
 ·rw [hnb]
  have hx0':¬ x<0:=by omega
  simp -dsimp (disch:=first | assumption | omega | (simp only [Ae];try omega)) only [↓Ai,Ad,Ag,Ah,eq_self,Nat.reduceEqDiff,↓reduceIte,Nat.reduceAdd,reduceCtorEq,hg,↓CP]
  exact no (bad h) _
 rw [hnb]
 have hx0':¬ x<0:=by omega
 have hx9':¬ 999<x:=by omega
 simp -dsimp (disch:=first | assumption | omega | (simp only [Ae];try omega)) only [↓Ai,Ad,Ag,Ah,eq_self,Nat.reduceEqDiff,↓reduceIte,Nat.reduceAdd,reduceCtorEq,hg,↓CP,↓QA,↓Pj]
 refine Aih hr f1 (y := .os 1 j v [] 0 b.length cp) (by simp [forget,get]) (fun hn n m => ?_) (fun ⟨k,hk,he⟩ => ?_)
 ·have hpl:=(AeQ hS.1).1
  simp only at hpl
  have hP':=AhP hP hr hS hn
  have c1:Fj 9 BinOp.add (.string (str [111,107,32])) (.string (str nm))=some (.string (str ([111,107,32]++nm))):=Adb (by simp; omega)
  have hrt:=AoP (s:=[111,107,32]++nm) (H:=G) (by simp; omega)
  have hz1:[111,107,32]++nm++[10]=Ip [wOk,nm]:=by rw [AbC]; rfl
  rw [hz1] at hrt
  have hzl:(BG (Ip [wOk,nm])).length≤1004:=by rw [Ib,AbC]; simp [wOk]; omega
  generalize [111,107,32]++nm=y1 at *
  simp -dsimp (disch:=first | assumption | omega | (simp only [Ae];try omega)) only [↓Ai,Ad,Ag,Ah,eq_self,Nat.reduceEqDiff,↓reduceIte,reduceCtorEq,hg,c1,↓PD]
  refine AbK (Am.mono hrt ?_)
  rintro z H2 ⟨j2,v2,rfl,k1,k2,k3,k4⟩
  have hj2:H2[j]?=some (.obj v (.arr b.length 1 (b.map by8))):=by rw [k4 j hjl]; exact hGj
  by_cases hp:0<x
  ·obtain ⟨n,hn1,hn2⟩:=AdP hS
   simp only at hn2
   subst hn2
   have hn0:0<n:=by omega
   have hst:Aan (nm,(n:Int))=[wNg,nm,d3 n]:=by unfold Aan; rw [if_neg (by simp only; omega),Af4 hn1]
   have hd:=(AoF n hn1).2
   have hdc:=Aip n (by omega)
   rw [AoJ hn1] at hdc
   have c2:Fj 9 BinOp.add (.string (str [110,103,32])) (.string (str nm))=some (.string (str ([110,103,32]++nm))):=Adb (by simp; omega)
   have c3:Fj 9 BinOp.add (.string (str ([110,103,32]++nm))) (.string (str [32]))=some (.string (str ([110,103,32]++nm++[32]))):=Adb (by simp; omega)
   have c4:Fj 9 BinOp.add (.string (str ([110,103,32]++nm++[32]))) (.string (str (d3 n)))=some (.string (str ([110,103,32]++nm++[32]++d3 n))):=Adb (by simp; omega)
   have hrt2:=AoP (s:=[110,103,32]++nm++[32]++d3 n) (H:=H2) (by simp; omega)
   have hz3:[110,103,32]++nm++[32]++d3 n++[10]=Ip [wNg,nm,d3 n]:=by rw [Wu]; simp [wNg]
   rw [hz3] at hrt2
   have hzl2:(BG (Ip [wNg,nm,d3 n])).length≤1004:=by rw [Ib,Wu]; simp [wNg]; omega
   have hz2:=List.take_of_length_le (l:=(BG (Ip [wNg,nm,d3 n])).map by8) (i:=(BG (Ip [wNg,nm,d3 n])).length) (by simp)
   have hS2:b++BG (Ip [wNg,nm,d3 n])=Ab6 ((l.take (i+1)).map Aan):=by rw [hsn,List.map_append,Ad2,List.map_cons,List.map_nil,Adw,hst,hB]
   generalize [110,103,32]++nm++[32]++d3 n=y2 at *
   generalize [110,103,32]++nm++[32]=y3 at *
   generalize [110,103,32]++nm=y4 at *
   generalize BG (Ip [wNg,nm,d3 n])=z at *
   simp -dsimp (disch:=first | assumption | omega | (simp only [Ae];try omega)) only [↓Ai,Ad,Ag,Ah,eq_self,Nat.reduceEqDiff,↓reduceIte,Nat.reduceAdd,reduceCtorEq,hg,hn0,c2,c3,↓Gs,↓Gx,↓Qk]
   refine ⟨_,hdc.calls rfl fun r hr=>⟨hr,rfl⟩,?_⟩
   simp -dsimp (disch:=first | assumption | omega | (simp only [Ae];try omega)) only [↓Ai,Ad,Ag,Ah,eq_self,Nat.reduceEqDiff,↓reduceIte,c4]
   refine AbK (Am.mono hrt2 ?_)
   rintro z9 H3 ⟨j3,v3,rfl,n1,n2,n3,n4⟩
   have hj3:H3[j]?=some (.obj v (.arr b.length 1 (b.map by8))):=by rw [n4 j (by omega)]; exact hj2
   simp -dsimp (disch:=first | assumption | omega | (simp only [Ae];try omega)) only [↓Ai,Ad,Ag,Ah,eq_self,Nat.reduceEqDiff,↓reduceIte,reduceCtorEq,n1,hz2,hbt,hj3,↓FN]
   refine AB (l.length - (i+1)) (by omega) (by simp; omega) ⟨i+1,j,v+1,(b++z).length,b++z,rfl,by omega,hS2,by rw [List.length_append]; omega,hP',?_,by simp; omega,by simp [forget,get]⟩
   rw [List.getElem?_set_self (by omega),List.length_append,List.map_append]
  ·have hst:Aan (nm,x)=[wOk,nm]:=by unfold Aan; rw [if_pos (by simp only; omega)]
   have hz2:=List.take_of_length_le (l:=(BG (Ip [wOk,nm])).map by8) (i:=(BG (Ip [wOk,nm])).length) (by simp)
   have hS2:b++BG (Ip [wOk,nm])=Ab6 ((l.take (i+1)).map Aan):=by rw [hsn,List.map_append,Ad2,List.map_cons,List.map_nil,Adw,hst,hB]
   generalize BG (Ip [wOk,nm])=z at *
   simp -dsimp (disch:=first | assumption | omega | (simp only [Ae];try omega)) only [↓Ai,Ad,Ag,Ah,eq_self,Nat.reduceEqDiff,↓reduceIte,Nat.reduceAdd,reduceCtorEq,hg,k1,hz2,hbt,hj2,↓Gs,↓Gx,↓FN]
   refine AB (l.length - (i+1)) (by omega) (by simp; omega) ⟨i+1,j,v+1,(b++z).length,b++z,rfl,by omega,hS2,by rw [List.length_append]; omega,hP',?_,by simp; omega,by simp [forget,get]⟩
   rw [List.getElem?_set_self (by omega),List.length_append,List.map_append]
 ·simp -dsimp (disch:=first | assumption | omega | (simp only [Ae];try omega)) only [↓Ai]
  exact no (ArJ hr hk he) _
end
section
open Go.RowKit
variable [AQ] [E8] [Au] [Az]
section
omit [E8] [Au] [Az]
theorem AfN:∀ {l w x:List UInt8},x∈spl w l→x.length≤w.length+l.length
 | [],w,x,h=>by rw [spl,List.mem_singleton] at h; subst h; simp
 | c::l,w,x,h=>by
  rw [spl] at h
  split at h
  ·rcases List.mem_cons.1 h with rfl | h
   ·simp
   ·have:=AfN h; simp at this ⊢; omega
  ·have:=AfN h; simp at this ⊢; omega
theorem Adz {b x:List UInt8} (h:x∈KZ b):x.length≤b.length:=by
 have:=AfN h
 have:=AbB b
 simp at *; omega
theorem Abq {ls:List (List UInt8)} {b:List UInt8} (h:AX ls b):4*ls.length≤b.length:=by
 have h1:∀ l:List (List UInt8),4*l.length≤(l.flatMap BG).length:=fun l=>by
  induction l with
  | nil=>simp
  | cons x l ih=>rw [List.flatMap_cons,List.length_append,Ib,List.length_cons]; omega
 have:=h1 ls
 rw [h.2] at this
 exact this
end
theorem AfZ (a b:List UInt8):BC Tryz.prog 96 [slB a,slB b] (fun x=>x=tb (decide (a=b))):=by
 refine Am.toPureV (Acj (by simp) ?_)
 simp -dsimp (disch:=first | assumption | omega) only [↓Ai,Ad,Ag,Ah,eq_self,Nat.reduceEqDiff,↓reduceIte,Nat.reduceAdd,reduceCtorEq,↓AdZ]
theorem ArH {b s:List UInt8}:BC Tryz.prog 66 [slB b,slB s,.val .nilIface] (fun r=>r=if b=s then .val .nilIface else eno 111):=by
 refine Am.toPureV (X8 (by simp) ?_)
 simp -dsimp (disch:=first | assumption | omega | (simp only [Ae];try omega)) only [↓Ai,Ad,Ag,Ah,eq_self,Nat.reduceEqDiff,↓reduceIte,Nat.reduceAdd,reduceCtorEq,↓Wj]
 refine (AfZ b s).calls rfl fun r hr => ?_
 subst hr
 by_cases h:b=s
 ·rw [decide_eq_true h,if_pos h]
  simp -dsimp (disch:=first | assumption | omega | (simp only [Ae];try omega)) only [↓Ai,Ad,Ag,Ah,eq_self,Nat.reduceEqDiff,↓reduceIte,↓OU]
 ·rw [decide_eq_false h,if_neg h]
  simp -dsimp (disch:=first | assumption | omega | (simp only [Ae];try omega)) only [↓Ai,Ad,Ag,Ah,eq_self,Nat.reduceEqDiff,↓reduceIte,↓OU]
  rfl
theorem Atb {b:List UInt8} {n:Int}:BC Tryz.prog 66 [slB b,U8,eno n] (fun r=>r=eno 111):=by
 refine Am.toPureV (X8 (by simp) ?_)
 simp -dsimp (disch:=first | assumption | omega | (simp only [Ae];try omega)) only [↓Ai,Ad,Ag,Ah,eq_self,Nat.reduceEqDiff,↓reduceIte,Nat.reduceAdd,reduceCtorEq,↓Wj,↓OU]
 rfl
end
section
open Go.RowKit
variable [AQ] [E8] [Ap] [Au] [Az]
theorem Aag (s:List UInt8) : -9223372036854775808≤MM s∧MM s≤9223372036854775807:=by
 unfold MM
 split
 ·rename_i v h; exact Lib.atoiAll_bounds h
 ·omega
 ·unfold Lib.atoiSat; split<;>omega
theorem Avp (s:List UInt8) (hs:s.length≤1000000):BC Tryz.prog 84 [ts s] (fun r=>r = .tup [i64 (MM s),.any]):=by
 intro β F w vs hF hv
 obtain ⟨v1,us,rfl,h1,hv⟩:=BA.cons.1 hv
 rw [BA.nil] at hv; subst hv
 obtain rfl:=Rep.val.1 (Or.inl h1:Rep _ _ _ _)
 have hsz:(str s).size≤281474976710656:=by simp [str,ByteArray.size]; omega
 have hsd:(str s).data.toList=s:=AgC s
 have fin:∀ (e:Ending) (w':World) (x:Value),e = .returned (.tuple #[.int .i64 (MM s),x])→Below w.heap.size w w'→∃ v x F',e = .returned v∧x = .tup [i64 (MM s),.any]∧Rep ⟨β,[],F'⟩ w' x v∧Q4 F w F' w':=by
  rintro e w' x rfl hb
  refine ⟨_,_,F,rfl,rfl,.inr ⟨_,[_,_],rfl,rfl,BA.cons.2 ⟨_,_,rfl,.inr (.inl rfl),BA.cons.2 ⟨_,_,rfl,.inl rfl,BA.nil.2 rfl⟩⟩⟩,⟨hb.os,hb.tape,hb.output,hb.size,hb.block,fun _ h=>h,fun _ _ h=>h,fun b hb'=>Nat.lt_of_lt_of_le (hF.1 b hb') hb.size⟩⟩
 cases h:Lib.atoiAll s with
 | ok v =>
  have e:MM s=v:=by unfold MM; rw [h]
  refine (Tryz.strconv_Atoi_ok (str s) (by omega) v (by rw [hsd]; exact h) w).mono ?_
  rintro e' w' ⟨rfl,hw⟩
  refine fin _ _ _ (by rw [e]) ?_
  rcases hw with rfl | ⟨t,rfl⟩
  ·exact Below.refl _ _
  ·exact Lib.bytesWorld_below _ _ _
 | «syntax» =>
  have e:MM s=0:=by unfold MM; rw [h]
  obtain ⟨t,a,hk⟩:=Au.k
  refine (Tryz.strconv_Atoi_syntax (str s) hsz (by rw [hsd]; exact h) _ w (XC hF.2 hk) (.inr ⟨_,_,rfl⟩)).mono ?_
  rintro e' w' ⟨N,rfl,_,_,hb⟩
  exact fin _ _ _ (by rw [e]) hb
 | range =>
  have e:MM s=Lib.atoiSat s:=by unfold MM; rw [h]
  obtain ⟨t,a,hk⟩:=Az.k
  refine (Tryz.strconv_Atoi_range (str s) hsz (by rw [hsd]; exact h) _ w (XC hF.2 hk) (.inr ⟨_,_,rfl⟩)).mono ?_
  rintro e' w' ⟨N,rfl,_,_,hb⟩
  exact fin _ _ _ (by rw [hsd,e]) hb
theorem AiC {q1 q2 q3:IntKind} {l h m:Int} {k id ver off n cp:Nat} {p:List (Nat×Nat)} {H:List Ob} {K:TV→Prop} [Tg K]:AaQ (.sl3 k) H [.os k id ver p off n cp,.val (.int q1 l),.val (.int q2 h),.val (.int q3 m)] K=Dy (0≤l∧l≤h∧h≤m∧m≤cp) (K (.os k id ver p (off+l.toNat) (h.toNat - l.toNat) (m.toNat - l.toNat))):=by
 unfold AaQ
 simp only [gev,true_and]
 by_cases h:0≤l∧l≤h∧h≤m∧m≤cp
 ·rw [if_pos h]; simp [Dy,h]
 ·rw [if_neg h]; simp [Dy,h]
theorem Aw4 {k v n:Nat} {cs:List TV} {H:List Ob} {K:TV→List Ob→Prop} (hk:H[k]?=some (.obj v (.arr n 2 cs))) (hn:n≤1000000) (hK:K (.os 2 k v [] 0 n n) H):Am Tryz.prog 85 [.os 2 k v [] 0 n n] H K:=by
 refine FI (by simp) ?_
 simp -dsimp (disch:=first | assumption | omega | (simp only [Ae];try omega)) only [↓Ai,Ad,Ag,Ah,eq_self,Nat.reduceEqDiff,↓reduceIte,reduceCtorEq,AiC,↓FZ]
 exact hK
theorem Ahg:∀ l:List StD,NI (l.map stT)=true
 | []=>rfl
 | r::l=>by
  rw [List.map_cons,NI,Ahg l]
  simp [stT,Ae2,NI]
theorem AiE {f:List UInt8→Int} {ls:List (List UInt8)} {i:Nat} {x:List UInt8} (h:ls[i]?=some x):Yp f (ls.take (i+1))=Lu f (Yp f (ls.take i)) (KZ x):=by
 unfold Yp
 rw [List.take_add_one,h,List.map_append,List.foldl_append]; rfl
def AoR (f:List UInt8→Int):Prop:=∀ s,-9223372036854775808≤f s∧f s≤9223372036854775807
def Xy (n:Nat) (l:List StD):Prop:=l.length≤n∧∀ s∈l,s.1.length≤1000 ∧ -9223372036854775808≤s.2∧s.2≤9223372036854775807
theorem Ad0 {f:List UInt8→Int} (hf:AoR f) {ls:List (List UInt8)} (h:∀ x∈ls,x.length≤1000):Xy ls.length (Yp f ls):=by
 have:∀ (ls:List (List UInt8)) (n:Nat) (o:List StD),(∀ x∈ls,x.length≤1000)→Xy n o→Xy (n+ls.length) ((ls.map KZ).foldl (Lu f) o):=fun ls=>by
  induction ls with
  | nil=>exact fun n o _ h=>h
  | cons x ls ih =>
   intro n o hx h
   rw [List.map_cons,List.foldl_cons,List.length_cons,show n+(ls.length+1)=(n+1)+ls.length by omega]
   refine ih _ _ (fun y hy=>hx y (by simp [hy])) ?_
   obtain ⟨h1,h2⟩:=h
   have hx1:=hx x (by simp)
   have keep:Xy (n+1) o:=⟨by omega,h2⟩
   have add:∀ (b:List UInt8) (z:Int),b∈KZ x→(-9223372036854775808≤z∧z≤9223372036854775807)→Xy (n+1) (o++[(b,z)]):=fun b z hb hz=>by
    have:=Adz hb
    refine ⟨by simp; omega,fun s hs => ?_⟩
    rcases List.mem_append.1 hs with hs | hs
    ·exact h2 s hs
    ·rw [List.mem_singleton] at hs; subst hs; exact ⟨by simp only; omega,hz⟩
   unfold Lu
   split
   ·rename_i a b hw
    split
    ·exact add b 0 (by rw [hw]; simp) (by omega)
    ·exact keep
   ·rename_i a b c hw
    split
    ·exact add b _ (by rw [hw]; simp) (hf c)
    ·exact keep
   ·exact keep
 have h0:=this ls 0 [] h ⟨by simp,fun r hr=>by cases hr⟩
 rw [Nat.zero_add] at h0
 exact h0
theorem AjD {f:List UInt8→Int} (hf:AoR f) {ls:List (List UInt8)} (h:∀ x∈ls,x.length≤1000) (hn:ls.length≤20000):Aea (Yp f ls):=by
 obtain ⟨h1,h2⟩:=Ad0 hf h
 exact ⟨by omega,fun s hs=>⟨by have:=(h2 s hs).1; omega,(h2 s hs).2⟩⟩
def Awb (b:List UInt8) (r:TV):Prop:=(∀ l,Nz l→AaO l=b→r = .tup [.sl 2 (l.map stT),.val .nilIface])∧((∀ l,Nz l→AaO l≠b)→(∀ ls,AX ls b→r = .tup [U8,eno 111])∧((∀ ls,¬ AX ls b)→r = .tup [U8,eno 110]))
theorem AbM (ws:List (List UInt8)):(∃ a b,ws=[a,b])∨(∃ a b c,ws=[a,b,c])∨(ws.length≠2∧ws.length≠3):=by
 match ws with
 | []=>exact .inr (.inr (by simp))
 | [a]=>exact .inr (.inr (by simp))
 | [a,b]=>exact .inl ⟨a,b,rfl⟩
 | [a,b,c]=>exact .inr (.inl ⟨a,b,c,rfl⟩)
 | a::b::c::d::r=>exact .inr (.inr (by simp))
theorem Ahc {f:List UInt8→Int} {o:List StD} {ws:List (List UInt8)} (h2:ws.length≠2) (h3:ws.length≠3):Lu f o ws=o:=by
 unfold Lu
 split
 ·exact absurd rfl h2
 ·exact absurd rfl h3
 ·rfl
theorem Agf (b:List UInt8) (hb:b.length≤70000):N8 Tryz.prog 52 [slB b] (Awb b):=by
 refine Am.toFreshV (YA (by simp) ?_)
 simp -dsimp (disch:=first | assumption | omega | (simp only [Ae];try omega)) only [↓Ai,Ad,Ag,Ah,eq_self,↓reduceIte,reduceCtorEq,↓WA,↓QU]
 refine (Asd b (by omega)).calls rfl fun r hr => ?_
 by_cases hL:∃ ls,AX ls b
 case neg =>
  have hno:∀ ls,¬ AX ls b:=fun ls h=>hL ⟨ls,h⟩
  rw [hr.2 hno]
  simp -dsimp (disch:=first | assumption | omega | (simp only [Ae];try omega)) only [↓Ai,Ad,Ag,Ah,eq_self,Nat.reduceEqDiff,↓reduceIte,reduceCtorEq,↓Ia,↓EO]
  exact ⟨fun o h1 e=>absurd e (Ag6 hno o h1),fun _=>⟨fun ls h=>absurd h (hno ls),fun _=>rfl⟩⟩
 obtain ⟨ls,hls⟩:=hL
 rw [hr.1 ls hls]
 clear hr
 have hlen:ls.length≤20000:=by have:=Abq hls; omega
 simp -dsimp (disch:=first | assumption | omega | (simp only [Ae];try omega)) only [↓Ai,Ad,Ag,Ah,eq_self,Nat.reduceEqDiff,↓reduceIte,reduceCtorEq,↓Ia,↓Q7,↓Rt,↓QJ]
 refine Fg (fun q e H=>∃ (i k v:Nat) (o:List StD),q=ls.length - i∧i≤ls.length∧o=Yp MM (ls.take i)∧1≤H.length∧H[k]?=some (.obj v (.arr o.length 2 (o.map stT)))∧e=[(0,slB b),(6,.os 2 k v [] 0 o.length o.length),(21,.sl 1 (ls.map LW)),(22,i64 (ls.length:Int)),(23,i64 (i:Int))]) ls.length ?_ ?_
 ·exact ⟨0,0,0,[],rfl,Nat.zero_le _,rfl,by simp,rfl,by simp [forget,get]⟩
 rintro q e H ⟨i,k,v,o,rfl,hi,hO,h1l,hHk,rfl⟩
 have hsm:=Ad0 (f:=MM) Aag (ls:=ls.take i) (fun x hx=>hls.1 x (List.mem_of_mem_take hx))
 rw [←hO,List.length_take,Nat.min_eq_left hi] at hsm
 obtain ⟨s2,s3⟩:=hsm
 have hkl:=(List.getElem?_eq_some_iff.1 hHk).1
 have hrt:(o.map stT).take o.length=o.map stT:=List.take_of_length_le (by simp)
 by_cases hil:i<ls.length
 case neg =>
  have hi2:i=ls.length:=by omega
  rw [List.take_of_length_le (by omega)] at hO
  simp -dsimp (disch:=first | assumption | omega | (simp only [Ae];try omega)) only [↓Ai,Ad,Ag,Ah,eq_self,Nat.reduceEqDiff,↓reduceIte,reduceCtorEq,↓BI,↓BH,↓QT]
  have hfit:=AjD (f:=MM) Aag hls.1 hlen
  rw [←hO] at hfit
  refine (ZQ o hfit).lends (args':=[.sl 2 (o.map stT)]) (by simp -dsimp (disch:=first | assumption | omega | (simp only [Ae];try omega)) only [Ag,Ah,eq_self,↓reduceIte,hHk,hrt]) fun r hr => ?_
  by_cases hok:Nz o
  ·rw [hr.1 hok]
   clear hr
   simp -dsimp (disch:=first | assumption | omega | (simp only [Ae];try omega)) only [↓Ai,Ad,Ag,Ah,eq_self,Nat.reduceEqDiff,↓reduceIte,reduceCtorEq,↓Hm]
   refine ArH.calls rfl fun r hr => ?_
   subst hr
   by_cases hB:b=AaO o
   ·rw [if_pos hB]
    simp -dsimp (disch:=first | assumption | omega | (simp only [Ae];try omega)) only [↓Ai,Ad,Ag,Ah,eq_self,Nat.reduceEqDiff,↓reduceIte,reduceCtorEq]
    refine AbK (Aw4 hHk (by omega) ?_)
    simp -dsimp (disch:=first | assumption | omega | (simp only [Ae];try omega)) only [↓Ai,Ad,Ag,Ah,eq_self,Nat.reduceEqDiff,↓reduceIte,hHk,hrt,Ahg,↓EO]
    refine ⟨fun o' h1 e => ?_,fun h=>absurd hB.symm (h _ hok)⟩
    have:=Vh Ad3 hls h1 e
    rw [←hO] at this
    subst this
    rfl
   ·rw [if_neg hB]
    simp -dsimp (disch:=first | assumption | omega | (simp only [Ae];try omega)) only [↓Ai,Ad,Ag,Ah,eq_self,Nat.reduceEqDiff,↓reduceIte,reduceCtorEq,↓EO]
    refine ⟨fun o' h1 e => ?_,fun _=>⟨fun _ _=>rfl,fun h=>absurd hls (h ls)⟩⟩
    have:=Vh Ad3 hls h1 e
    rw [←hO] at this
    subst this
    exact absurd e.symm hB
  ·rw [hr.2 hok]
   clear hr
   simp -dsimp (disch:=first | assumption | omega | (simp only [Ae];try omega)) only [↓Ai,Ad,Ag,Ah,eq_self,Nat.reduceEqDiff,↓reduceIte,reduceCtorEq,↓Hm]
   refine Atb.calls rfl fun r hr => ?_
   subst hr
   simp -dsimp (disch:=first | assumption | omega | (simp only [Ae];try omega)) only [↓Ai,Ad,Ag,Ah,eq_self,Nat.reduceEqDiff,↓reduceIte,reduceCtorEq,↓EO]
   refine ⟨fun o' h1 e => ?_,fun _=>⟨fun _ _=>rfl,fun h=>absurd hls (h ls)⟩⟩
   have:=Vh Ad3 hls h1 e
   rw [←hO] at this
   subst this
   exact absurd h1 hok
 have hg:ls[i]?=some ls[i]:=List.getElem?_eq_getElem hil
 have hgl:(ls.map LW)[i]?=some (LW ls[i]):=by rw [List.getElem?_map,hg]; rfl
 have hsu:=AiE (f:=MM) hg
 rw [←hO] at hsu
 have hx1:=hls.1 _ (List.mem_of_getElem? hg)
 have hwl:∀ w∈KZ ls[i],w.length≤ls[i].length:=fun w hw=>Adz hw
 unfold LW at hgl
 generalize KZ ls[i]=ws at *
 have hA:∀ T:List Ob,(H++T)[k]?=some (.obj v (.arr o.length 2 (o.map stT))):=fun T=>by rw [List.getElem?_append_left hkl]; exact hHk
 rcases AbM ws with ⟨a,c,rfl⟩ | ⟨a,c,d,rfl⟩ | ⟨h2,h3⟩
 ·have hgl':(ls.map LW)[i]?=some (.sl 1 [ts a,ts c]):=hgl
  by_cases ha:a=[111,107]
  ·have hst:Lu MM o [a,c]=o++[(c,0)]:=by unfold Lu; simp [ha,wOk]
   have hat:(a=[111,107])=True:=eq_true ha
   rw [hst] at hsu
   simp -dsimp (disch:=first | assumption | omega | (simp only [Ae];try omega)) only [↓Ai,Ad,Ag,Ah,eq_self,Nat.reduceEqDiff,↓reduceIte,Nat.reduceAdd,reduceCtorEq,Nat.reduceLeDiff,hgl',hat,hA,hrt,Atl,↓BI,↓BH,↓Cm,↓Cj,↓CB,↓TB]
   have hl1:(o++[(c,0)]).length=o.length+1:=by simp
   refine AB (ls.length - (i+1)) (by omega) (by simp<;>omega) ⟨i+1,k,v+1,_,rfl,by omega,hsu.symm,by simp<;>omega,?_,by rw [hl1]; simp [forget,get]⟩
   rw [ga (by simp<;>omega),List.getElem?_set_self hkl,hl1,List.map_append]; rfl
  ·have hst:Lu MM o [a,c]=o:=by unfold Lu; simp [ha,wOk]
   rw [hst] at hsu
   simp -dsimp (disch:=first | assumption | omega | (simp only [Ae];try omega)) only [↓Ai,Ad,Ag,Ah,eq_self,Nat.reduceEqDiff,↓reduceIte,Nat.reduceAdd,reduceCtorEq,hgl',ha,↓BI,↓BH,↓Cm,↓Cj,↓CB,↓Dh,↓Di]
   exact AB (ls.length - (i+1)) (by omega) h1l ⟨i+1,k,v,_,rfl,by omega,hsu.symm,h1l,hHk,by simp [forget,get]⟩
 ·have hgl':(ls.map LW)[i]?=some (.sl 1 [ts a,ts c,ts d]):=hgl
  have hdl:=hwl d (by simp)
  by_cases ha:a=[110,103]
  ·have hst:Lu MM o [a,c,d]=o++[(c,MM d)]:=by unfold Lu; simp [ha,wNg]
   have hat:(a=[110,103])=True:=eq_true ha
   rw [hst] at hsu
   simp -dsimp (disch:=first | assumption | omega | (simp only [Ae];try omega)) only [↓Ai,Ad,Ag,Ah,eq_self,Nat.reduceEqDiff,↓reduceIte,Nat.reduceAdd,reduceCtorEq,hgl',hat,↓BI,↓BH,↓Cm,↓Cj,↓CB,↓Dh,↓Di,↓Tz]
   refine (Avp d (by omega)).calls rfl fun r hr => ?_
   subst hr
   generalize MM d=y at *
   simp -dsimp (disch:=first | assumption | omega | (simp only [Ae];try omega)) only [↓Ai,Ad,Ag,Ah,eq_self,Nat.reduceEqDiff,↓reduceIte,Nat.reduceAdd,reduceCtorEq,Nat.reduceLeDiff,hA,hrt,Atl]
   have hl1:(o++[(c,y)]).length=o.length+1:=by simp
   refine AB (ls.length - (i+1)) (by omega) (by simp<;>omega) ⟨i+1,k,v+1,_,rfl,by omega,hsu.symm,by simp<;>omega,?_,by rw [hl1]; simp [forget,get]⟩
   rw [ga (by simp<;>omega),List.getElem?_set_self hkl,hl1,List.map_append]; rfl
  ·have hst:Lu MM o [a,c,d]=o:=by unfold Lu; simp [ha,wNg]
   rw [hst] at hsu
   simp -dsimp (disch:=first | assumption | omega | (simp only [Ae];try omega)) only [↓Ai,Ad,Ag,Ah,eq_self,Nat.reduceEqDiff,↓reduceIte,Nat.reduceAdd,reduceCtorEq,hgl',ha,↓BI,↓BH,↓Cm,↓Cj,↓CB,↓Dh,↓Di]
   exact AB (ls.length - (i+1)) (by omega) h1l ⟨i+1,k,v,_,rfl,by omega,hsu.symm,h1l,hHk,by simp [forget,get]⟩
 ·rw [Ahc h2 h3] at hsu
  simp -dsimp (disch:=first | assumption | omega | (simp only [Ae];try omega)) only [↓Ai,Ad,Ag,Ah,eq_self,Nat.reduceEqDiff,↓reduceIte,reduceCtorEq,hgl,h2,h3,↓BI,↓BH,↓Cm,↓Cj,↓CB,↓Dh,↓Di]
  exact AB (ls.length - (i+1)) (by omega) h1l ⟨i+1,k,v,_,rfl,by omega,hsu.symm,h1l,hHk,by simp [forget,get]⟩
end
section
open Go.RowKit
variable [AQ] [E8] [Au] [Az]
end
section
open Go.RowKit
variable [AQ] [E8] [Ap] [Au] [Az]
theorem AcP (s:List UInt8) : -1000000≤AbX s∧AbX s≤1000000:=by
 unfold AbX
 have:∀ (l:List UInt8),l.length≤4 → -1000000≤l.foldl (fun n c=>n*10+(c.toNat:Int) - 48) 0∧l.foldl (fun n c=>n*10+(c.toNat:Int) - 48) 0≤1000000:=by
  intro l hl
  match l,hl with
  | [],_=>simp
  | [a],_=>have:=a.toNat_lt; simp only [List.foldl]; omega
  | [a,b],_=>have:=a.toNat_lt; have:=b.toNat_lt; simp only [List.foldl]; omega
  | [a,b,c],_=>have:=a.toNat_lt; have:=b.toNat_lt; have:=c.toNat_lt; simp only [List.foldl]; omega
  | [a,b,c,d],_=>have:=a.toNat_lt; have:=b.toNat_lt; have:=c.toNat_lt; have:=d.toNat_lt; simp only [List.foldl]; omega
 exact this _ (by simp; omega)
theorem AbA (s:List UInt8) : -9223372036854775808≤AbX s∧AbX s≤9223372036854775807:=by
 have:=AcP s
 omega
def ArV (b:List UInt8) (r:TV):Prop:=(∀ l,Nz l→AaO l=b→r = .tup [.sl 2 (l.map stT),i64 ((0:Nat):Int)])∧((∀ l,Nz l→AaO l≠b)→(∀ ls,AX ls b→r = .tup [U8,i64 ((111:Nat):Int)])∧((∀ ls,¬ AX ls b)→r = .tup [U8,i64 ((110:Nat):Int)]))
theorem AnO {d:List UInt8} {j:Nat} {c:UInt8} (h:d[j]?=some c) (hj:j<4):(d.take (j+1)).foldl (fun n c=>n*10+(c.toNat:Int) - 48) 0=(d.take j).foldl (fun n c=>n*10+(c.toNat:Int) - 48) 0*10+(c.toNat:Int) - 48:=by
 rw [List.take_add_one,h,List.foldl_append]; rfl
theorem Alm {b a c d:List UInt8} {lsT y:TV} {i:Nat} {Q:VEx→Env→List Ob→Prop} {H:List Ob} {E:Env} (hdl:d.length≤1000) (hE:forget [0,4,6,7,8,9,10] E=[(0,slB b),(4,lsT),(6,y),(7,i64 (i:Int)),(8,.sl 1 [ts a,ts c,ts d]),(9,i64 ((0:Nat):Int)),(10,i64 ((0:Nat):Int))])
  (hyes:∀ m n,Q (.exit 2) [(0,slB b),(4,lsT),(6,y),(7,i64 (i:Int)),(8,.sl 1 [ts a,ts c,ts d]),(9,i64 (AbX d)),(10,n),(65,m)] H) :
  vwp Tryz.prog (.loop [0,4,6,7,8,9,10] Ff) Q E H:=by
 refine Fg (fun q e G=>∃ j:Nat,q=4 - j∧j≤4∧j≤d.length∧G=H∧e=[(0,slB b),(4,lsT),(6,y),(7,i64 (i:Int)),(8,.sl 1 [ts a,ts c,ts d]),(9,i64 ((d.take j).foldl (fun n c=>n*10+(c.toNat:Int) - 48) 0)),(10,i64 (j:Int))]) 4 ⟨0,rfl,by omega,by omega,rfl,by simpa using hE⟩ ?_
 rintro q e G ⟨j,rfl,hj,hjd,rfl,rfl⟩
 by_cases hjl:j<d.length
 ·by_cases hj4:j<4
  ·obtain ⟨x,hx⟩:∃ x,d[j]?=some x:=⟨_,List.getElem?_eq_getElem hjl⟩
   have ht:=AnO hx hj4
   have hbd:=AcP (d.take j)
   unfold AbX at hbd
   rw [List.take_take,Nat.min_eq_right (by omega)] at hbd
   generalize (d.take j).foldl (fun n c=>n*10+(c.toNat:Int) - 48) 0=z at *
   have hxl:=x.toNat_lt
   have w1:IntKind.i64.wrap ((x.toNat:Nat):Int)=((x.toNat:Nat):Int):=FC (by omega) (by omega)
   simp -dsimp (disch:=first | assumption | omega | (simp only [Ae];try omega)) only [↓Ai,Ad,Ag,Ah,eq_self,Nat.reduceEqDiff,↓reduceIte,reduceCtorEq,AU,hx,w1,↓EP,↓Q5]
   exact AB (4 - (j+1)) (by omega) (Nat.le_refl _) ⟨j+1,rfl,by omega,by omega,rfl,by rw [ht]; simp [forget,get]⟩
  ·have e4:j=4:=by omega
   have hd4:AbX d=(d.take j).foldl (fun n c=>n*10+(c.toNat:Int) - 48) 0:=by rw [e4]; rfl
   rw [←hd4]
   simp -dsimp (disch:=first | assumption | omega | (simp only [Ae];try omega)) only [↓Ai,Ad,Ag,Ah,eq_self,Nat.reduceEqDiff,↓reduceIte,reduceCtorEq,AU,↓EP]
   exact hyes _ _
 ·have hd4:AbX d=(d.take j).foldl (fun n c=>n*10+(c.toNat:Int) - 48) 0:=by unfold AbX; rw [List.take_of_length_le (by omega),List.take_of_length_le (by omega)]
  rw [←hd4]
  simp -dsimp (disch:=first | assumption | omega | (simp only [Ae];try omega)) only [↓Ai,Ad,Ag,Ah,eq_self,Nat.reduceEqDiff,↓reduceIte,reduceCtorEq,AU,↓EP]
  exact hyes _ _
theorem Afi (b:List UInt8) (hb:b.length≤70000):BC Tryz.prog 53 [slB b] (ArV b):=by
 refine Am.toPureV (WZ (by simp) ?_)
 simp -dsimp (disch:=first | assumption | omega | (simp only [Ae];try omega)) only [↓Ai,Ad,Ag,Ah,eq_self,↓reduceIte,reduceCtorEq,↓VD,↓PU]
 refine (ApW b (by omega)).calls rfl fun r hr => ?_
 by_cases hL:∃ ls,AX ls b
 case neg =>
  have hno:∀ ls,¬ AX ls b:=fun ls h=>hL ⟨ls,h⟩
  rw [hr.2 hno]
  simp -dsimp (disch:=first | assumption | omega | (simp only [Ae];try omega)) only [↓Ai,Ad,Ag,Ah,eq_self,Nat.reduceEqDiff,↓reduceIte,reduceCtorEq,↓Gn,↓EC]
  exact ⟨fun o h1 e=>absurd e (Ag6 hno o h1),fun _=>⟨fun ls h=>absurd h (hno ls),fun _=>rfl⟩⟩
 obtain ⟨ls,hls⟩:=hL
 rw [hr.1 ls hls]
 clear hr
 have hlen:ls.length≤20000:=by have:=Abq hls; omega
 simp -dsimp (disch:=first | assumption | omega | (simp only [Ae];try omega)) only [↓Ai,Ad,Ag,Ah,eq_self,Nat.reduceEqDiff,↓reduceIte,reduceCtorEq,↓Gn,↓Qh,↓P5,↓Qw]
 refine Fg (fun q e H=>∃ (i k v:Nat) (o:List StD),q=ls.length - i∧i≤ls.length∧o=Yp AbX (ls.take i)∧1≤H.length∧H[k]?=some (.obj v (.arr o.length 2 (o.map stT)))∧e=[(0,slB b),(4,.sl 1 (ls.map slB)),(6,.os 2 k v [] 0 o.length o.length),(7,i64 (i:Int))]) ls.length ?_ ?_
 ·exact ⟨0,0,0,[],rfl,Nat.zero_le _,rfl,by simp,rfl,by simp [forget,get]⟩
 rintro q e H ⟨i,k,v,o,rfl,hi,hO,h1l,hHk,rfl⟩
 have hsm:=Ad0 (f:=AbX) AbA (ls:=ls.take i) (fun x hx=>hls.1 x (List.mem_of_mem_take hx))
 rw [←hO,List.length_take,Nat.min_eq_left hi] at hsm
 obtain ⟨s2,s3⟩:=hsm
 have hkl:=(List.getElem?_eq_some_iff.1 hHk).1
 have hrt:(o.map stT).take o.length=o.map stT:=List.take_of_length_le (by simp)
 by_cases hil:i<ls.length
 case neg =>
  have hi2:i=ls.length:=by omega
  rw [List.take_of_length_le (by omega)] at hO
  simp -dsimp (disch:=first | assumption | omega | (simp only [Ae];try omega)) only [↓Ai,Ad,Ag,Ah,eq_self,Nat.reduceEqDiff,↓reduceIte,reduceCtorEq,↓F9,↓Qz]
  have hfit:=AjD (f:=AbX) AbA hls.1 hlen
  rw [←hO] at hfit
  refine (XO o hfit).lends (args':=[.sl 2 (o.map stT)]) (by simp -dsimp (disch:=first | assumption | omega | (simp only [Ae];try omega)) only [Ag,Ah,eq_self,↓reduceIte,hHk,hrt]) fun r hr => ?_
  by_cases hok:Nz o
  ·rw [hr.1 hok]
   clear hr
   by_cases hB:AaO o=b
   ·have hBt:(AaO o=b)=True:=eq_true hB
    simp -dsimp (disch:=first | assumption | omega | (simp only [Ae];try omega)) only [↓Ai,Ad,Ag,Ah,eq_self,Nat.reduceEqDiff,↓reduceIte,reduceCtorEq,hBt,hHk,hrt,↓EF,↓EC]
    refine ⟨fun o' h1 e => ?_,fun h=>absurd hB (h _ hok)⟩
    have:=Vh AfH hls h1 e
    rw [←hO] at this
    subst this
    rfl
   ·simp -dsimp (disch:=first | assumption | omega | (simp only [Ae];try omega)) only [↓Ai,Ad,Ag,Ah,eq_self,Nat.reduceEqDiff,↓reduceIte,reduceCtorEq,hB,↓EF,↓EC]
    refine ⟨fun o' h1 e => ?_,fun _=>⟨fun _ _=>rfl,fun h=>absurd hls (h ls)⟩⟩
    have:=Vh AfH hls h1 e
    rw [←hO] at this
    subst this
    exact absurd e hB
  ·rw [hr.2 hok]
   clear hr
   simp -dsimp (disch:=first | assumption | omega | (simp only [Ae];try omega)) only [↓Ai,Ad,Ag,Ah,eq_self,Nat.reduceEqDiff,↓reduceIte,reduceCtorEq,↓EF,↓EC]
   refine ⟨fun o' h1 e => ?_,fun _=>⟨fun _ _=>rfl,fun h=>absurd hls (h ls)⟩⟩
   have:=Vh AfH hls h1 e
   rw [←hO] at this
   subst this
   exact absurd h1 hok
 have hg:ls[i]?=some ls[i]:=List.getElem?_eq_getElem hil
 have hgl:(ls.map slB)[i]?=some (slB ls[i]):=by rw [List.getElem?_map,hg]; rfl
 have hsu:=AiE (f:=AbX) hg
 rw [←hO] at hsu
 have hx1:=hls.1 _ (List.mem_of_getElem? hg)
 have hwl:∀ w∈KZ ls[i],w.length≤ls[i].length:=fun w hw=>Adz hw
 have hwv:=As2 ls[i] (by omega)
 generalize KZ ls[i]=ws at *
 generalize ls[i]=x at *
 have hA:∀ T:List Ob,(H++T)[k]?=some (.obj v (.arr o.length 2 (o.map stT))):=fun T=>by rw [List.getElem?_append_left hkl]; exact hHk
 simp -dsimp (disch:=first | assumption | omega | (simp only [Ae];try omega)) only [↓Ai,Ad,Ag,Ah,eq_self,Nat.reduceEqDiff,↓reduceIte,reduceCtorEq,hgl,↓F9,↓PX]
 refine hwv.calls rfl fun r hr => ?_
 subst hr
 rcases AbM ws with ⟨a,c,rfl⟩ | ⟨a,c,d,rfl⟩ | ⟨h2,h3⟩
 ·by_cases ha:a=[111,107]
  ·have hst:Lu AbX o [a,c]=o++[(c,0)]:=by unfold Lu; simp [ha,wOk]
   have hat:(a=[111,107])=True:=eq_true ha
   rw [hst] at hsu
   simp -dsimp (disch:=first | assumption | omega | (simp only [Ae];try omega)) only [↓Ai,Ad,Ag,Ah,eq_self,Nat.reduceEqDiff,↓reduceIte,Nat.reduceAdd,reduceCtorEq,Nat.reduceLeDiff,hat,hA,hrt,Atl,↓BL,↓QY,↓BZ,↓Cb,↓BM]
   have hl1:(o++[(c,(0:Int))]).length=o.length+1:=by simp
   refine AB (ls.length - (i+1)) (by omega) (by simp<;>omega) ⟨i+1,k,v+1,_,rfl,by omega,hsu.symm,by simp<;>omega,?_,by rw [hl1]; simp [forget,get]⟩
   rw [ga (by simp<;>omega),List.getElem?_set_self hkl,hl1,List.map_append]; rfl
  ·have hst:Lu AbX o [a,c]=o:=by unfold Lu; simp [ha,wOk]
   rw [hst] at hsu
   simp -dsimp (disch:=first | assumption | omega | (simp only [Ae];try omega)) only [↓Ai,Ad,Ag,Ah,eq_self,Nat.reduceEqDiff,↓reduceIte,Nat.reduceAdd,reduceCtorEq,ha,↓BL,↓BZ,↓Cb,↓BM]
   exact AB (ls.length - (i+1)) (by omega) h1l ⟨i+1,k,v,_,rfl,by omega,hsu.symm,h1l,hHk,by simp [forget,get]⟩
 ·have hdl:=hwl d (by simp)
  by_cases ha:a=[110,103]
  ·have hst:Lu AbX o [a,c,d]=o++[(c,AbX d)]:=by unfold Lu; simp [ha,wNg]
   have hat:(a=[110,103])=True:=eq_true ha
   rw [hst] at hsu
   simp -dsimp (disch:=first | assumption | omega | (simp only [Ae];try omega)) only [↓Ai,Ad,Ag,Ah,eq_self,Nat.reduceEqDiff,↓reduceIte,Nat.reduceAdd,reduceCtorEq,hat,↓BL,↓BZ,↓Cb,↓Rl,↓QZ,↓Q8]
   refine Alm (b:=b) (a:=a) (c:=c) (d:=d) (lsT := .sl 1 (ls.map slB)) (y := .os 2 k v [] 0 o.length o.length) (i:=i) (by omega) (by simp [forget,get]) fun m n => ?_
   generalize AbX d=y at *
   simp -dsimp (disch:=first | assumption | omega | (simp only [Ae];try omega)) only [↓Ai,Ad,Ag,Ah,eq_self,Nat.reduceEqDiff,↓reduceIte,Nat.reduceAdd,reduceCtorEq,Nat.reduceLeDiff,hA,hrt,Atl,↓QL,↓BM]
   have hl1:(o++[(c,y)]).length=o.length+1:=by simp
   refine AB (ls.length - (i+1)) (by omega) (by simp<;>omega) ⟨i+1,k,v+1,_,rfl,by omega,hsu.symm,by simp<;>omega,?_,by rw [hl1]; simp [forget,get]⟩
   rw [ga (by simp<;>omega),List.getElem?_set_self hkl,hl1,List.map_append]; rfl
  ·have hst:Lu AbX o [a,c,d]=o:=by unfold Lu; simp [ha,wNg]
   rw [hst] at hsu
   simp -dsimp (disch:=first | assumption | omega | (simp only [Ae];try omega)) only [↓Ai,Ad,Ag,Ah,eq_self,Nat.reduceEqDiff,↓reduceIte,Nat.reduceAdd,reduceCtorEq,ha,↓BL,↓BZ,↓Cb,↓BM]
   exact AB (ls.length - (i+1)) (by omega) h1l ⟨i+1,k,v,_,rfl,by omega,hsu.symm,h1l,hHk,by simp [forget,get]⟩
 ·rw [Ahc h2 h3] at hsu
  simp -dsimp (disch:=first | assumption | omega | (simp only [Ae];try omega)) only [↓Ai,Ad,Ag,Ah,eq_self,Nat.reduceEqDiff,↓reduceIte,reduceCtorEq,h2,h3,↓BL,↓BZ,↓Cb,↓BM]
  exact AB (ls.length - (i+1)) (by omega) h1l ⟨i+1,k,v,_,rfl,by omega,hsu.symm,h1l,hHk,by simp [forget,get]⟩
end
section
open Go.RowKit
variable [AQ]
theorem Akh {l m:List UInt8} {k:Nat} (h:l.take k=m.take k) (h1:k<l.length) (h2:k<m.length) (e:l[k]=m[k]):l.take (k+1)=m.take (k+1):=by
 rw [List.take_succ_eq_append_getElem h1,List.take_succ_eq_append_getElem h2,h,e]
theorem AvU {x y:UInt8} (h:x≠y):¬ (x.toNat=y.toNat):=fun e=>h (UInt8.toNat_inj.1 e)
theorem same (l m:List UInt8) (hl:l.length≤9223372036854775807) (hm:m.length≤9223372036854775807):BC Tryz.prog 10 [slB l,slB m] (fun x=>x=tb (decide (l=m))):=by
 refine Am.toPureV (AeE (by simp) ?_)
 by_cases hlen:l.length=m.length
 case neg =>
  have hne:l≠m:=fun e=>hlen (by rw [e])
  simp -dsimp (disch:=first | assumption | omega) only [↓Ai,Ad,Ag,Ah,eq_self,Nat.reduceEqDiff,↓reduceIte,Nat.reduceAdd,reduceCtorEq,↓MX,decide_eq_false hne]
 simp -dsimp (disch:=first | assumption | omega) only [↓Ai,Ad,Ag,Ah,eq_self,Nat.reduceEqDiff,↓reduceIte,Nat.reduceAdd,reduceCtorEq,↓MX]
 refine Fg (fun n e H=>∃ (k:Nat),n=l.length - k∧k≤l.length∧l.take k=m.take k∧e=[(0,slB l),(1,slB m),(5,i64 (k:Int))]∧H=[]) l.length ?_ ?_
 ·exact ⟨0,by simp,by omega,by simp,rfl,rfl⟩
 ·rintro n e H ⟨k,rfl,hk,ht,rfl,rfl⟩
  by_cases hkl:k<l.length
  ·have hkm:k<m.length:=by omega
   have g1:l[k]?=some l[k]:=by simp [hkl]
   have g2:m[k]?=some m[k]:=by simp [hkm]
   by_cases he:l[k]=m[k]
   ·have hx:=Akh ht hkl hkm he
    have he':l[k].toNat=m[k].toNat:=by rw [he]
    simp -dsimp (disch:=first | assumption | omega) only [↓Ai,Ad,Ag,Ah,eq_self,Nat.reduceEqDiff,↓reduceIte,reduceCtorEq,↓MX,g1,g2]
    exact AB (l.length - (k+1)) (by omega) (by simp) ⟨k+1,rfl,by omega,hx,rfl,rfl⟩
   ·have he':=AvU he
    have hne:l≠m:=fun e=>he (by subst e; rfl)
    simp -dsimp (disch:=first | assumption | omega) only [↓Ai,Ad,Ag,Ah,eq_self,Nat.reduceEqDiff,↓reduceIte,reduceCtorEq,↓MX,g1,g2,decide_eq_false hne]
  ·have hke:k=l.length:=by omega
   have heq:l=m:=by rw [hke,List.take_length,hlen,List.take_length] at ht; exact ht
   simp -dsimp (disch:=first | assumption | omega) only [↓Ai,Ad,Ag,Ah,eq_self,Nat.reduceEqDiff,↓reduceIte,reduceCtorEq,↓MX,decide_eq_true heq]
theorem AvK (l:List UInt8) (hl:l.length≤1000000) {H:List Ob} {K:TV→List Ob→Prop} (hk:K (.os 1 H.length 0 [] 0 l.length (l.length+2)) (H++[.obj 0 (.arr (l.length+2) 1 ((l++[71,72]).map by8))])) :
  Am Tryz.prog 17 [slB l] H K:=by
 refine Aef (by simp) ?_
 have c2:((l.length:Int)+2)=((l.length+2:Nat):Int):=by omega
 have b1:((1:Nat):Int)*((l.length+2:Nat):Int)≤281474976710656:=by omega
 have b2:((l.length+2:Nat):Int)≤9223372036854775807:=by omega
 have z:∀ n:Nat,List.replicate n (TV.val (.int .u8 ((0:Nat):Int)))=(List.replicate n (0:UInt8)).map by8:=fun n=>by rw [List.map_replicate]; rfl
 have e1:List.map by8 l++List.drop (min l.length (l.length+2)) (List.replicate (l.length+2) (TV.val (.int .u8 ((0:Nat):Int))))=(l++[0,0]).map by8:=by
  rw [z,←List.map_drop,←List.map_append,Nat.min_eq_left (by omega),List.drop_replicate,show l.length+2 - l.length=2 from by omega]; rfl
 have e2:((l++[0,0]).map by8).set l.length (.val (.int .u8 ((71:Nat):Int)))=(l++[71,0]).map by8:=by
  rw [List.map_append,List.set_append_right _ _ (by simp),List.map_append]; simp
 have e3:((l++[71,0]).map by8).set (l.length+1) (.val (.int .u8 ((72:Nat):Int)))=(l++[71,72]).map by8:=by
  rw [List.map_append,List.set_append_right _ _ (by simp),List.map_append]; simp
 have g1:((l++[0,0]).map by8)[l.length]?=some (by8 0):=by simp
 have g2:((l++[71,0]).map by8)[l.length+1]?=some (by8 0):=by simp
 simp -dsimp (disch:=first | assumption | omega | (simp only [Ae];try omega)) only [↓Ai,Ad,Ag,Ah,eq_self,Nat.reduceEqDiff,↓reduceIte,reduceCtorEq,Nat.reduceLeDiff,↓Afn,e1,e2,e3,g1,g2]
 exact hk
abbrev x85 (l:List UInt8):List UInt8:=l.map (· ^^^ 85)
theorem An3 {c:List UInt8} {k:Nat} (hk:k<c.length):(x85 (c.take k)++c.drop k).set k (c[k] ^^^ 85)=x85 (c.take (k+1))++c.drop (k+1):=by
 have h1:(x85 (c.take k)).length=k:=by simp; omega
 rw [List.set_append_right _ _ (by omega),h1,Nat.sub_self,List.drop_eq_getElem_cons hk,List.set_cons_zero,List.take_succ_eq_append_getElem hk,x85,x85,List.map_append,List.append_assoc]
 rfl
theorem Agq (l:List UInt8) (hl:l.length≤1000000) {H:List Ob} {id ver:Nat} {K:TV→List Ob→Prop} (ho:H[id]?=some (.obj ver (.arr (l.length+2) 1 ((l++[71,72]).map by8))))
  (hk:K (tb true) (H.set id (.obj ver (.arr (l.length+2) 1 ((x85 (l++[71,72])).map by8))))) :
  Am Tryz.prog 19 [.os 1 id ver [] 0 l.length (l.length+2),slB l] H K:=by
 refine AdK (by simp) ?_
 have hid:id<H.length:=(List.getElem?_eq_some_iff.1 ho).1
 have c2:((l.length:Int)+2)=((l.length+2:Nat):Int):=by omega
 have g1:(l++[71,72])[l.length]?=some 71:=by simp
 have g2:(l++[71,72])[l.length+1]?=some 72:=by simp
 have hL:(l++[71,72]).length=l.length+2:=by simp
 have ht:(l++[71,72]).take l.length=l:=by simp
 generalize hc:l++[71,72]=c at *
 simp -dsimp (disch:=first | assumption | omega | (simp only [Ae];try omega)) only [↓Ai,Ad,Ag,Ah,eq_self,Nat.reduceEqDiff,↓reduceIte,Nat.reduceAdd,reduceCtorEq,Nat.reduceLeDiff,↓Oy]
 refine (same l l (by omega) (by omega)).lends (args':=[slB l,slB l]) (by simp -dsimp (disch:=first | assumption | omega) only [Ag,Ah,eq_self,↓reduceIte,ho,hL,ht]) ?_
 rintro x rfl
 refine ⟨rfl,?_⟩
 rw [show tb (decide (l=l))=tb true from by simp]
 simp -dsimp (disch:=first | assumption | omega | (simp only [Ae];try omega)) only [↓Ai,Ad,Ag,Ah,eq_self,Nat.reduceEqDiff,UInt8.reduceToNat,↓reduceIte,↓Oy,ho,g1,g2]
 ·refine Fg (fun n e H'=>∃ (k:Nat),n=c.length - k∧k≤c.length∧e=[(6,.os 1 id ver [] 0 (l.length+2) (l.length+2)),(7,tb true),(8,i64 (k:Int))]∧H'=H.set id (.obj ver (.arr (l.length+2) 1 ((x85 (c.take k)++c.drop k).map by8)))) c.length ?_ ?_
  ·refine ⟨0,by simp,by omega,rfl,?_⟩
   have e0:x85 (c.take 0)++c.drop 0=c:=by simp
   obtain ⟨h1,h2⟩:=List.getElem?_eq_some_iff.1 ho
   rw [e0,←h2,List.set_getElem_self]
  ·rintro n e H' ⟨k,rfl,hkl,rfl,rfl⟩
   have gs:∀ o,(H.set id o)[id]?=some o:=fun o=>by simp [hid]
   by_cases hkc:k<c.length
   ·have hk2:k<l.length+2:=by omega
    have hlen:(x85 (c.take k)).length=k:=by simp; omega
    have g3:(x85 (c.take k)++c.drop k)[k]?=some c[k]:=by
     rw [List.getElem?_append_right (by omega),hlen,Nat.sub_self,List.getElem?_drop]; simp [hkc]
    have g4:=An3 hkc
    have h85:∀ (t:TypeId) (x:UInt8),Fj t .xor (.int .u8 (x.toNat:Int)) (.int .u8 ((85:Nat):Int))=some (.int .u8 ((x ^^^ 85).toNat:Int)):=fun t x=>AoE (t:=t) (x:=x) (y:=85)
    generalize x85 (c.take k)++c.drop k=r at *
    generalize c[k]=y at *
    simp -dsimp (disch:=first | assumption | omega | (simp only [Ae];try omega)) only [↓Ai,Ad,Ag,Ah,eq_self,Nat.reduceEqDiff,↓reduceIte,↓Oy,gs,g3,g4,h85,AlW]
    exact AB (c.length - (k+1)) (by omega) (by simp) ⟨k+1,rfl,by omega,rfl,rfl⟩
   ·have hke:k=c.length:=by omega
    have hk2:¬ k<l.length+2:=by omega
    have e0:x85 (c.take k)++c.drop k=x85 c:=by rw [hke,List.take_length,List.drop_length,List.append_nil]
    have e1:List.drop k c=[]:=by rw [hke,List.drop_length]
    simp -dsimp (disch:=first | assumption | omega | (simp only [Ae];try omega)) only [↓Ai,Ad,Ag,Ah,eq_self,Nat.reduceEqDiff,↓reduceIte,↓Oy]
    rw [e1,List.append_nil]
    exact hk
end
section
open Go.RowKit
variable [AQ] [CO] [Ap] [Au] [Az] [E8]
theorem Ahq {l:List StD} (h:Nz l) (hn:l.length≤60):(AaO l).length≤70000:=by
 have h1:=AlP (wss:=l.map Aan) fun ws hw=>by obtain ⟨s,hs,rfl⟩:=List.mem_map.1 hw; exact (Ad9 (h.2 s hs)).2
 rw [List.length_map] at h1
 unfold AaO
 rw [List.length_append]
 show _+4≤_
 omega
theorem Ae8 (b:List UInt8) (hb:b.length≤70000):BC Tryz.prog 25 [slB b] (fun r=>r=tb true):=by
 refine Am.toPureV (Y2 (by simp) ?_)
 have htk2:((b++[71,72]).map by8).take b.length=b.map by8:=by rw [List.map_append,List.take_append_of_le_length (by simp),List.take_of_length_le (by simp)]
 have hrd:=Afi b (by omega)
 simp -dsimp (disch:=first | assumption | omega | (simp only [Ae];try omega)) only [↓Ai,Ad,Ag,Ah,eq_self,↓reduceIte,reduceCtorEq,↓Xx,↓Tv]
 refine AbK (AvK b (by omega) ?_)
 simp -dsimp (disch:=first | assumption | omega | (simp only [Ae];try omega)) only [↓Ai,Ad,Ag,Ah,eq_self,↓reduceIte,reduceCtorEq,↓TK]
 refine (Agf b (by omega)).lends (args':=[slB b]) (by simp -dsimp (disch:=first | assumption | omega | (simp only [Ae];try omega)) only [Ag,Ah,eq_self,↓reduceIte,Nat.reduceAdd,htk2]) fun r hr => ?_
 by_cases h:∃ o,Nz o∧AaO o=b
 ·obtain ⟨l,h1,e⟩:=h
  rw [hr.1 _ h1 e]
  have h500:=h1.1.2
  have r1:=hrd.mono fun r hr=>hr.1 _ h1 e
  simp -dsimp (disch:=first | assumption | omega | (simp only [Ae];try omega)) only [↓Ai,Ad,Ag,Ah,eq_self,Nat.reduceEqDiff,↓reduceIte,reduceCtorEq,↓J6]
  refine AbK (Agq b (by omega) rfl ?_)
  simp -dsimp (disch:=first | assumption | omega | (simp only [Ae];try omega)) only [↓Ai,Ad,Ag,Ah,eq_self,Nat.reduceEqDiff,↓reduceIte,reduceCtorEq,↓KL]
  refine r1.calls rfl fun r hr => ?_
  subst hr
  simp -dsimp (disch:=first | assumption | omega | (simp only [Ae];try omega)) only [↓Ai,Ad,Ag,Ah,eq_self,Nat.reduceEqDiff,↓reduceIte,reduceCtorEq,↓KA]
  refine Ass.calls rfl fun r hr => ?_
  subst hr
  simp -dsimp (disch:=first | assumption | omega | (simp only [Ae];try omega)) only [↓Ai,Ad,Ag,Ah,eq_self,Nat.reduceEqDiff,↓reduceIte,↓La,↓Ky]
  refine Fg (fun q e H=>∃ (i:Nat),q=l.length - i∧i≤l.length∧1≤H.length∧e=[(4,.sl 2 (l.map stT)),(7,.sl 2 (l.map stT)),(9,i64 (i:Int))]) l.length ?_ ?_
  ·exact ⟨0,rfl,Nat.zero_le _,by simp,by simp [forget,get]⟩
  rintro q e H ⟨i,rfl,hi,h1l,rfl⟩
  by_cases hil:i<l.length
  case neg=>simp -dsimp (disch:=first | assumption | omega | (simp only [Ae];try omega)) only [↓Ai,Ad,Ag,Ah,eq_self,Nat.reduceEqDiff,↓reduceIte,↓Fh,↓KO,↓Oe]
  obtain ⟨⟨nm,x⟩,hr⟩:∃ r,l[i]?=some r:=⟨_,List.getElem?_eq_getElem hil⟩
  have hg:(l.map stT)[i]?=some (.agg [ts nm,i64 x]):=by rw [List.getElem?_map,hr]; rfl
  simp -dsimp (disch:=first | assumption | omega | (simp only [Ae];try omega)) only [↓Ai,Ad,Ag,Ah,eq_self,Nat.reduceEqDiff,↓reduceIte,Nat.reduceAdd,hg,↓Fh,↓Ue]
  exact AB (l.length - (i+1)) (by omega) h1l ⟨i+1,rfl,by omega,h1l,by simp [forget,get]⟩
 ·have hno:∀ o,Nz o→AaO o≠b:=fun o h1 e=>h ⟨o,h1,e⟩
  obtain ⟨n,hn,hrn⟩:∃ n:Nat,r = .tup [U8,eno (n:Int)]∧BC Tryz.prog 53 [slB b] (fun r=>r = .tup [U8,i64 (n:Int)]):=by
   by_cases hL:∃ ls,AX ls b
   ·obtain ⟨ls,hls⟩:=hL
    exact ⟨111,(hr.2 hno).1 ls hls,hrd.mono fun r h=>(h.2 hno).1 ls hls⟩
   ·have hL':∀ ls,¬ AX ls b:=fun ls h=>hL ⟨ls,h⟩
    exact ⟨110,(hr.2 hno).2 hL',hrd.mono fun r h=>(h.2 hno).2 hL'⟩
  subst hn
  simp -dsimp (disch:=first | assumption | omega | (simp only [Ae];try omega)) only [↓Ai,Ad,Ag,Ah,eq_self,Nat.reduceEqDiff,↓reduceIte,reduceCtorEq,↓J6]
  refine AbK (Agq b (by omega) rfl ?_)
  simp -dsimp (disch:=first | assumption | omega | (simp only [Ae];try omega)) only [↓Ai,Ad,Ag,Ah,eq_self,Nat.reduceEqDiff,↓reduceIte,reduceCtorEq,↓KL]
  refine hrn.calls rfl fun r hr => ?_
  subst hr
  simp -dsimp (disch:=first | assumption | omega | (simp only [Ae];try omega)) only [↓Ai,Ad,Ag,Ah,eq_self,Nat.reduceEqDiff,↓reduceIte,reduceCtorEq,↓KA]
  refine AxN.calls rfl fun r hr => ?_
  subst hr
  simp -dsimp (disch:=first | assumption | omega | (simp only [Ae];try omega)) only [↓Ai,Ad,Ag,Ah,eq_self,Nat.reduceEqDiff,↓reduceIte,↓La,↓Ky]
  refine Fg (fun q e H=>1≤H.length∧e=[(4,U8),(7,U8),(9,i64 ((0:Nat):Int))]) 0 ⟨by simp,by simp [forget,get]⟩ ?_
  rintro q e H ⟨_,rfl⟩
  simp -dsimp (disch:=first | assumption | omega | (simp only [Ae];try omega)) only [↓Ai,Ad,Ag,Ah,eq_self,Nat.reduceLT,Nat.reduceEqDiff,↓reduceIte,↓Fh,↓KO,↓Oe]
theorem Af2 (l:List StD) (b:List UInt8) (hl:l.length≤140737488351232) (hr:∀ s∈l,s.1.length≤2000000 ∧ -9223372036854775808≤s.2∧s.2≤9223372036854775807) (hb:b.length≤140737488351232):BC Tryz.prog 6 [.sl 2 (l.map stT),slB b] (fun r=>r=tb true):=by
 refine Am.toPureV (U7 (by simp) ?_)
 simp -dsimp (disch:=first | assumption | omega | (simp only [Ae];try omega)) only [↓Ai,Ad,Ag,Ah,eq_self,Nat.reduceEqDiff,↓reduceIte,Nat.reduceAdd,reduceCtorEq,↓TC,↓NT]
 by_cases h60:60<l.length
 ·simp -dsimp (disch:=first | assumption | omega | (simp only [Ae];try omega)) only [↓Ai,Ad,Ag,Ah,eq_self,Nat.reduceEqDiff,↓reduceIte,reduceCtorEq,↓Df]
 by_cases hl2:6000<b.length
 ·simp -dsimp (disch:=first | assumption | omega | (simp only [Ae];try omega)) only [↓Ai,Ad,Ag,Ah,eq_self,Nat.reduceEqDiff,↓reduceIte,reduceCtorEq,↓Df]
 have hfit:Aea l:=⟨by omega,hr⟩
 have hwo:=(ZQ _ hfit).pure
 have hro:=XO _ hfit
 have hrb:=Ae8 b (by omega)
 simp -dsimp (disch:=first | assumption | omega | (simp only [Ae];try omega)) only [↓Ai,Ad,Ag,Ah,eq_self,Nat.reduceEqDiff,↓reduceIte,reduceCtorEq,↓NS,↓NU,↓OV]
 refine Fg (fun q e H=>∃ (i k v:Nat),q=l.length - i∧i≤l.length∧1≤H.length∧H[k]?=some (.obj v (.arr i 2 ((l.take i).map stT)))∧e=[(0,.sl 2 (l.map stT)),(1,slB b),(5,.os 2 k v [] 0 i i),(6,i64 (i:Int))]) l.length ?_ ?_
 ·exact ⟨0,0,0,rfl,Nat.zero_le _,by simp,rfl,by simp [forget,get]⟩
 rintro q e H ⟨i,k,v,rfl,hi,h1l,hHk,rfl⟩
 have hkl:=(List.getElem?_eq_some_iff.1 hHk).1
 have hrl:((l.take i).map stT).length=i:=by rw [List.length_map,List.length_take,Nat.min_eq_left hi]
 have hrt:((l.take i).map stT).take i=(l.take i).map stT:=List.take_of_length_le (by omega)
 by_cases hil:i<l.length
 case pos =>
  obtain ⟨⟨nm,x⟩,hr⟩:∃ r,l[i]?=some r:=⟨_,List.getElem?_eq_getElem hil⟩
  have hg:(l.map stT)[i]?=some (.agg [ts nm,i64 x]):=by rw [List.getElem?_map,hr]; rfl
  have hsn:(l.take (i+1)).map stT=(l.take i).map stT++[.agg [ts nm,i64 x]]:=by rw [List.take_add_one,hr,List.map_append]; rfl
  have hA:∀ T:List Ob,(H++T)[k]?=some (.obj v (.arr i 2 ((l.take i).map stT))):=fun T=>by rw [List.getElem?_append_left hkl]; exact hHk
  simp -dsimp (disch:=first | assumption | omega | (simp only [Ae];try omega)) only [↓Ai,Ad,Ag,Ah,eq_self,Nat.reduceEqDiff,↓reduceIte,Nat.reduceAdd,reduceCtorEq,Nat.reduceLeDiff,hg,hA,hrl,Atl,↓FM,↓OM]
  refine AB (l.length - (i+1)) (by omega) (by simp<;>omega) ⟨i+1,k,v+1,rfl,by omega,by simp<;>omega,?_,by simp [forget,get]⟩
  rw [ga (by simp<;>omega),List.getElem?_set_self hkl,hsn]
 have hi2:i=l.length:=by omega
 rw [List.take_of_length_le (by omega)] at hHk hrt
 subst hi2
 simp -dsimp (disch:=first | assumption | omega | (simp only [Ae];try omega)) only [↓Ai,Ad,Ag,Ah,eq_self,Nat.reduceEqDiff,↓reduceIte,reduceCtorEq,↓FM,↓NV]
 refine hwo.calls rfl fun r hr => ?_
 by_cases hok:Nz l
 ·rw [hr.1 hok]
  have hrx:=Ae8 _ (Ahq hok (by omega))
  have hxl:=Ahq hok (by omega)
  simp -dsimp (disch:=first | assumption | omega | (simp only [Ae];try omega)) only [↓Ai,Ad,Ag,Ah,eq_self,Nat.reduceEqDiff,↓reduceIte,reduceCtorEq,↓FD]
  refine hro.lends (args':=[.sl 2 (l.map stT)]) (by simp -dsimp (disch:=first | assumption | omega | (simp only [Ae];try omega)) only [Ag,Ah,eq_self,↓reduceIte,hHk]) fun r hr => ?_
  rw [hr.1 hok]
  generalize AaO l=X at *
  simp -dsimp (disch:=first | assumption | omega | (simp only [Ae];try omega)) only [↓Ai,Ad,Ag,Ah,eq_self,Nat.reduceEqDiff,↓reduceIte,↓FK]
  refine (same X X (by omega) (by omega)).calls rfl fun r hr => ?_
  subst hr
  simp -dsimp (disch:=first | assumption | omega | (simp only [Ae];try omega)) only [↓Ai,Ad,Ag,Ah,eq_self,Nat.reduceEqDiff,↓reduceIte,↓FO]
  refine Ass.calls rfl fun r hr => ?_
  subst hr
  simp -dsimp (disch:=first | assumption | omega | (simp only [Ae];try omega)) only [↓Ai,Ad,Ag,Ah,eq_self,Nat.reduceEqDiff,↓reduceIte,↓FU]
  refine hrb.calls rfl fun r hr => ?_
  subst hr
  simp -dsimp (disch:=first | assumption | omega | (simp only [Ae];try omega)) only [↓Ai,Ad,Ag,Ah,eq_self,Nat.reduceEqDiff,↓reduceIte,↓FB]
  refine hrx.calls rfl fun r hr => ?_
  subst hr
  simp -dsimp (disch:=first | assumption | omega | (simp only [Ae];try omega)) only [↓Ai,Ad,Ag,Ah,eq_self,Nat.reduceEqDiff,↓reduceIte,↓Df]
 ·rw [hr.2 hok]
  simp -dsimp (disch:=first | assumption | omega | (simp only [Ae];try omega)) only [↓Ai,Ad,Ag,Ah,eq_self,Nat.reduceEqDiff,↓reduceIte,reduceCtorEq,↓FD]
  refine hro.lends (args':=[.sl 2 (l.map stT)]) (by simp -dsimp (disch:=first | assumption | omega | (simp only [Ae];try omega)) only [Ag,Ah,eq_self,↓reduceIte,hHk]) fun r hr => ?_
  rw [hr.2 hok]
  simp -dsimp (disch:=first | assumption | omega | (simp only [Ae];try omega)) only [↓Ai,Ad,Ag,Ah,eq_self,Nat.reduceEqDiff,↓reduceIte,↓FK]
  refine ((same [] [] (by simp) (by simp)).argL (.cons Ahd (.cons Ahd .nil))).calls rfl fun r hr => ?_
  subst hr
  simp -dsimp (disch:=first | assumption | omega | (simp only [Ae];try omega)) only [↓Ai,Ad,Ag,Ah,eq_self,Nat.reduceEqDiff,↓reduceIte,↓FO]
  refine AxN.calls rfl fun r hr => ?_
  subst hr
  simp -dsimp (disch:=first | assumption | omega | (simp only [Ae];try omega)) only [↓Ai,Ad,Ag,Ah,eq_self,Nat.reduceEqDiff,↓reduceIte,↓FU]
  refine hrb.calls rfl fun r hr => ?_
  subst hr
  simp -dsimp (disch:=first | assumption | omega | (simp only [Ae];try omega)) only [↓Ai,Ad,Ag,Ah,eq_self,Nat.reduceEqDiff,↓reduceIte,reduceCtorEq,↓FB,↓OD,↓Df]
end
section
open Go.RowKit
variable [AQ]
set_option maxRecDepth 100000 in
theorem Aej {R:Nat}:Oi R Tryz.prog 57 (fun s:StD=>stT s) (fun s=>s.1.length≤R ∧ -9223372036854775808≤s.2∧s.2≤9223372036854775807):=by
 refine Pm (Adv Tryz.underlying57 (by kernel_rfl) (Z7 (off:=0) (n:=1) rfl (by kernel_rfl) (Adp Tryz.underlying9) (Z7 (off:=1) (n:=1) rfl (by kernel_rfl) (AhK Tryz.underlying33) AfV))) fun x h => ?_
 obtain ⟨n,i,u⟩:=x
 exact ⟨(n,i),rfl,h.1,h.2.1⟩
set_option maxRecDepth 100000 in
theorem Aby {R:Nat}:Oi R Tryz.prog 54 (fun l:List StD => .sl 2 (l.map stT)) (fun l=>l.length≤140737488351232∧∀ s∈l,s.1.length≤R ∧ -9223372036854775808≤s.2∧s.2≤9223372036854775807):=by
 refine Pm (Aar Tryz.underlying54 (k:=2) (by kernel_rfl) (B:=24) (by kernel_rfl) Aej (fun r h=>by unfold stT; simp [AC,Cc]) (by omega)) fun x h => ?_
 exact ⟨x,rfl,by have:=h.2.1; omega,h.1⟩
end
end Go.Proofs.YtnikbdnebdmmiaaGreatDoor
namespace Go.Proofs.YtnikbdnebdmmiaaGreatDoor.wireStatuses
open Go.ChangeShapes Go.WideShapes Go.ChangeAt Go.RowKit
theorem own:ownKnob Tryz.prog.godebug=none:=by kernel_rfl
mutual
def Ao5:DataW Unit→List Value
 | .lit (.int k n)=>[.int k n]
 | .lit (.string l)=>[.string ⟨l.toArray⟩]
 | .agg l=>As0 l
 | _=>[]
def As0:List (DataW Unit)→List Value
 | []=>[]
 | d::l=>Ao5 d++As0 l
end
abbrev giM (t0:TypeId) (a0:Addr) (t1:TypeId) (a1:Addr) (m:Int):AQ:=⟨[(0,CZ),(7,Bf),(8,Be),(2,AO),(4,GV.one (.iface t0 (.pointer (some a0)))),(3,GV.one (.iface t1 (.pointer (some a1)))),(1,GV.one (.int .i64 m))],by kernel_rfl⟩
theorem YO (t0:TypeId) (a0:Addr) (t1:TypeId) (a1:Addr) (m:Int):@CO (giM t0 a0 t1 a1 m):=@CO.mk (giM t0 a0 t1 a1 m) (by kernel_rfl)
theorem OI (t0:TypeId) (a0:Addr) (t1:TypeId) (a1:Addr) (m:Int):@DF (giM t0 a0 t1 a1 m):=@DF.mk (giM t0 a0 t1 a1 m) (by kernel_rfl)
theorem OG (t0:TypeId) (a0:Addr) (t1:TypeId) (a1:Addr) (m:Int):@DI (giM t0 a0 t1 a1 m):=@DI.mk (giM t0 a0 t1 a1 m) (by kernel_rfl)
theorem KG (t0:TypeId) (a0:Addr) (t1:TypeId) (a1:Addr) (m:Int):@Ap (giM t0 a0 t1 a1 m):=@Ap.mk (giM t0 a0 t1 a1 m) (by kernel_rfl)
theorem Yf (t0:TypeId) (a0:Addr) (t1:TypeId) (a1:Addr) (m:Int):@Az (giM t0 a0 t1 a1 m):=@Az.mk (giM t0 a0 t1 a1 m) ⟨t0,a0,by kernel_rfl⟩
theorem Xa (t0:TypeId) (a0:Addr) (t1:TypeId) (a1:Addr) (m:Int):@Au (giM t0 a0 t1 a1 m):=@Au.mk (giM t0 a0 t1 a1 m) ⟨t1,a1,by kernel_rfl⟩
theorem et:Tryz.prog.globalNamed "errors.errorType" = some 0:=by kernel_rfl
theorem rt:(Tryz.prog.cutTypes.find? (·.1 == "internal/reflectlite.rtype")).map (·.2)=some 170:=by kernel_rfl
theorem Atc:((List.range Tryz.prog.types.size).filter fun t=>Tryz.prog.rowNamed t [101,114,114,111,114])=[25]:=by kernel_rfl
theorem Ab4 {W:World} (h:handlesMet Tryz.prog [("errors.errorType", Rows.laid_errors_errorType)] W):∃ t fr,W.heap[0]?=some (.cells CZ.cells.toArray t fr):=by
 obtain ⟨name,u,ty,e1,e2,e3,e4,e5⟩:=h _ (List.mem_singleton.2 rfl)
 have en:name=[101,114,114,111,114]:=(Option.some.inj e1).symm
 subst en
 obtain rfl:=Option.some.inj (rt.symm.trans e2)
 have hm:ty∈(List.range Tryz.prog.types.size).filter fun t=>Tryz.prog.rowNamed t [101,114,114,111,114]:=List.mem_filter.2 ⟨List.mem_range.2 e3,e4⟩
 rw [Atc] at hm
 obtain rfl:=List.mem_singleton.1 hm
 have hh:typeHandle Tryz.prog 25 = .pointer (some ⟨9,25,none⟩):=by kernel_rfl
 rw [hh] at e5
 exact Adl et e5
def NL:List (DataW Unit):=[.lit (.int .u8 0),.lit (.int .u8 1),.lit (.int .u8 28),.lit (.int .u8 2),.lit (.int .u8 29),.lit (.int .u8 14),.lit (.int .u8 24),.lit (.int .u8 3),.lit (.int .u8 30),.lit (.int .u8 22),.lit (.int .u8 20),.lit (.int .u8 15),.lit (.int .u8 25),.lit (.int .u8 17),.lit (.int .u8 4),.lit (.int .u8 8),.lit (.int .u8 31),.lit (.int .u8 27),.lit (.int .u8 13),.lit (.int .u8 23),.lit (.int .u8 21),.lit (.int .u8 19),.lit (.int .u8 16),.lit (.int .u8 7),.lit (.int .u8 26),.lit (.int .u8 12),.lit (.int .u8 18),.lit (.int .u8 6),.lit (.int .u8 11),.lit (.int .u8 5),.lit (.int .u8 10),.lit (.int .u8 9)]
theorem NW {W:World} (h:laidMet Tryz.prog [("math/bits.deBruijn32tab", Rows.laid_math_bits_deBruijn32tab),("math/bits.deBruijn64tab", Rows.laid_math_bits_deBruijn64tab),("internal/strconv.uint64pow10", Rows.laid_internal_strconv_uint64pow10),("unicode/utf8.acceptRanges", Rows.laid_unicode_utf8_acceptRanges),("strconv.ErrRange", Rows.laid_strconv_ErrRange),("strconv.ErrSyntax", Rows.laid_strconv_ErrSyntax),("unicode/utf8.first", Rows.laid_unicode_utf8_first)] W):∃ t fr,W.heap[7]?=some (.cells Bf.cells.toArray t fr) :=
 Ada (t:=(Tryz.prog.globals[7]?).elim 0 (·.type)) (e:=match Tryz.prog.underlying ((Tryz.prog.globals[7]?).elim 0 (·.type)) with | some (.array _ e)=>e | _=>0) (n:=Bf.cells.length) h (List.mem_of_getElem? (i:=0) (show [("math/bits.deBruijn32tab", Rows.laid_math_bits_deBruijn32tab),("math/bits.deBruijn64tab", Rows.laid_math_bits_deBruijn64tab),("internal/strconv.uint64pow10", Rows.laid_internal_strconv_uint64pow10),("unicode/utf8.acceptRanges", Rows.laid_unicode_utf8_acceptRanges),("strconv.ErrRange", Rows.laid_strconv_ErrRange),("strconv.ErrSyntax", Rows.laid_strconv_ErrSyntax),("unicode/utf8.first", Rows.laid_unicode_utf8_first)][0]?=some ("math/bits.deBruijn32tab", DataW.agg NL) by kernel_rfl)) (by kernel_rfl) (by kernel_rfl) (by kernel_rfl) (by kernel_rfl) (by kernel_rfl) (by kernel_rfl) (by kernel_rfl)
def NP:List (DataW Unit):=[.lit (.int .u8 0),.lit (.int .u8 1),.lit (.int .u8 56),.lit (.int .u8 2),.lit (.int .u8 57),.lit (.int .u8 49),.lit (.int .u8 28),.lit (.int .u8 3),.lit (.int .u8 61),.lit (.int .u8 58),.lit (.int .u8 42),.lit (.int .u8 50),.lit (.int .u8 38),.lit (.int .u8 29),.lit (.int .u8 17),.lit (.int .u8 4),.lit (.int .u8 62),.lit (.int .u8 47),.lit (.int .u8 59),.lit (.int .u8 36),.lit (.int .u8 45),.lit (.int .u8 43),.lit (.int .u8 51),.lit (.int .u8 22),.lit (.int .u8 53),.lit (.int .u8 39),.lit (.int .u8 33),.lit (.int .u8 30),.lit (.int .u8 24),.lit (.int .u8 18),.lit (.int .u8 12),.lit (.int .u8 5),.lit (.int .u8 63),.lit (.int .u8 55),.lit (.int .u8 48),.lit (.int .u8 27),.lit (.int .u8 60),.lit (.int .u8 41),.lit (.int .u8 37),.lit (.int .u8 16),.lit (.int .u8 46),.lit (.int .u8 35),.lit (.int .u8 44),.lit (.int .u8 21),.lit (.int .u8 52),.lit (.int .u8 32),.lit (.int .u8 23),.lit (.int .u8 11),.lit (.int .u8 54),.lit (.int .u8 26),.lit (.int .u8 40),.lit (.int .u8 15),.lit (.int .u8 34),.lit (.int .u8 20),.lit (.int .u8 31),.lit (.int .u8 10),.lit (.int .u8 25),.lit (.int .u8 14),.lit (.int .u8 19),.lit (.int .u8 9),.lit (.int .u8 13),.lit (.int .u8 8),.lit (.int .u8 7),.lit (.int .u8 6)]
theorem NM {W:World} (h:laidMet Tryz.prog [("math/bits.deBruijn32tab", Rows.laid_math_bits_deBruijn32tab),("math/bits.deBruijn64tab", Rows.laid_math_bits_deBruijn64tab),("internal/strconv.uint64pow10", Rows.laid_internal_strconv_uint64pow10),("unicode/utf8.acceptRanges", Rows.laid_unicode_utf8_acceptRanges),("strconv.ErrRange", Rows.laid_strconv_ErrRange),("strconv.ErrSyntax", Rows.laid_strconv_ErrSyntax),("unicode/utf8.first", Rows.laid_unicode_utf8_first)] W):∃ t fr,W.heap[8]?=some (.cells Be.cells.toArray t fr) :=
 Ada (t:=(Tryz.prog.globals[8]?).elim 0 (·.type)) (e:=match Tryz.prog.underlying ((Tryz.prog.globals[8]?).elim 0 (·.type)) with | some (.array _ e)=>e | _=>0) (n:=Be.cells.length) h (List.mem_of_getElem? (i:=1) (show [("math/bits.deBruijn32tab", Rows.laid_math_bits_deBruijn32tab),("math/bits.deBruijn64tab", Rows.laid_math_bits_deBruijn64tab),("internal/strconv.uint64pow10", Rows.laid_internal_strconv_uint64pow10),("unicode/utf8.acceptRanges", Rows.laid_unicode_utf8_acceptRanges),("strconv.ErrRange", Rows.laid_strconv_ErrRange),("strconv.ErrSyntax", Rows.laid_strconv_ErrSyntax),("unicode/utf8.first", Rows.laid_unicode_utf8_first)][1]?=some ("math/bits.deBruijn64tab", DataW.agg NP) by kernel_rfl)) (by kernel_rfl) (by kernel_rfl) (by kernel_rfl) (by kernel_rfl) (by kernel_rfl) (by kernel_rfl) (by kernel_rfl)
def JE:List (DataW Unit):=[.lit (.int .u64 1),.lit (.int .u64 10),.lit (.int .u64 100),.lit (.int .u64 1000),.lit (.int .u64 10000),.lit (.int .u64 100000),.lit (.int .u64 1000000),.lit (.int .u64 10000000),.lit (.int .u64 100000000),.lit (.int .u64 1000000000),.lit (.int .u64 10000000000),.lit (.int .u64 100000000000),.lit (.int .u64 1000000000000),.lit (.int .u64 10000000000000),.lit (.int .u64 100000000000000),.lit (.int .u64 1000000000000000),.lit (.int .u64 10000000000000000),.lit (.int .u64 100000000000000000),.lit (.int .u64 1000000000000000000),.lit (.int .u64 10000000000000000000)]
theorem Jw {W:World} (h:laidMet Tryz.prog [("math/bits.deBruijn32tab", Rows.laid_math_bits_deBruijn32tab),("math/bits.deBruijn64tab", Rows.laid_math_bits_deBruijn64tab),("internal/strconv.uint64pow10", Rows.laid_internal_strconv_uint64pow10),("unicode/utf8.acceptRanges", Rows.laid_unicode_utf8_acceptRanges),("strconv.ErrRange", Rows.laid_strconv_ErrRange),("strconv.ErrSyntax", Rows.laid_strconv_ErrSyntax),("unicode/utf8.first", Rows.laid_unicode_utf8_first)] W):∃ t fr,W.heap[2]?=some (.cells AO.cells.toArray t fr) :=
 Ada (t:=(Tryz.prog.globals[2]?).elim 0 (·.type)) (e:=match Tryz.prog.underlying ((Tryz.prog.globals[2]?).elim 0 (·.type)) with | some (.array _ e)=>e | _=>0) (n:=AO.cells.length) h (List.mem_of_getElem? (i:=2) (show [("math/bits.deBruijn32tab", Rows.laid_math_bits_deBruijn32tab),("math/bits.deBruijn64tab", Rows.laid_math_bits_deBruijn64tab),("internal/strconv.uint64pow10", Rows.laid_internal_strconv_uint64pow10),("unicode/utf8.acceptRanges", Rows.laid_unicode_utf8_acceptRanges),("strconv.ErrRange", Rows.laid_strconv_ErrRange),("strconv.ErrSyntax", Rows.laid_strconv_ErrSyntax),("unicode/utf8.first", Rows.laid_unicode_utf8_first)][2]?=some ("internal/strconv.uint64pow10", DataW.agg JE) by kernel_rfl)) (by kernel_rfl) (by kernel_rfl) (by kernel_rfl) (by kernel_rfl) (by kernel_rfl) (by kernel_rfl) (by kernel_rfl)
theorem Ax6 : "*" ++ "errors.errorString" = "*errors.errorString" := by decide
theorem AoS (u:TypeId) (h:Tryz.prog.typeName? 3 u=some "*errors.errorString"):u=232 :=
 typeName_ptr_named (nm := "errors.errorString") (by rw [Ax6]; kernel_rfl) (by kernel_rfl) (by decide) u (by rw [Ax6]; exact h)
theorem VL {W:World} (h:laidMet Tryz.prog [("math/bits.deBruijn32tab", Rows.laid_math_bits_deBruijn32tab),("math/bits.deBruijn64tab", Rows.laid_math_bits_deBruijn64tab),("internal/strconv.uint64pow10", Rows.laid_internal_strconv_uint64pow10),("unicode/utf8.acceptRanges", Rows.laid_unicode_utf8_acceptRanges),("strconv.ErrRange", Rows.laid_strconv_ErrRange),("strconv.ErrSyntax", Rows.laid_strconv_ErrSyntax),("unicode/utf8.first", Rows.laid_unicode_utf8_first)] W):∃ (a:Addr) (t:TypeId) (fr:Nat×Nat),W.heap[4]?=some (.cells #[.iface 232 (.pointer (some a))] t fr):=by
 have h2:laidMet Tryz.prog (("strconv.ErrRange", DataW.iface "*errors.errorString" (.ptr (.agg [.lit (.string [118,97,108,117,101,32,111,117,116,32,111,102,32,114,97,110,103,101])])))::[("strconv.ErrSyntax", Rows.laid_strconv_ErrSyntax),("unicode/utf8.first", Rows.laid_unicode_utf8_first)]) W:=h.tail.tail.tail.tail
 have hg:Tryz.prog.globalNamed "strconv.ErrRange" = some 4:=by kernel_rfl
 obtain ⟨a,s,hv,_⟩:=laid_sentinel h2 hg (show (Tryz.prog.globals[4]?).map (·.type)=some 25 by kernel_rfl) Tryz.underlying25 AoS Tryz.underlying232 Tryz.underlying234 rfl rfl Tryz.underlying9 (by kernel_rfl) (by kernel_rfl)
 exact ⟨a,Adl hg hv⟩
theorem UZ {W:World} (h:laidMet Tryz.prog [("math/bits.deBruijn32tab", Rows.laid_math_bits_deBruijn32tab),("math/bits.deBruijn64tab", Rows.laid_math_bits_deBruijn64tab),("internal/strconv.uint64pow10", Rows.laid_internal_strconv_uint64pow10),("unicode/utf8.acceptRanges", Rows.laid_unicode_utf8_acceptRanges),("strconv.ErrRange", Rows.laid_strconv_ErrRange),("strconv.ErrSyntax", Rows.laid_strconv_ErrSyntax),("unicode/utf8.first", Rows.laid_unicode_utf8_first)] W):∃ (a:Addr) (t:TypeId) (fr:Nat×Nat),W.heap[3]?=some (.cells #[.iface 232 (.pointer (some a))] t fr):=by
 have h2:laidMet Tryz.prog (("strconv.ErrSyntax", DataW.iface "*errors.errorString" (.ptr (.agg [.lit (.string [105,110,118,97,108,105,100,32,115,121,110,116,97,120])])))::[("unicode/utf8.first", Rows.laid_unicode_utf8_first)]) W:=h.tail.tail.tail.tail.tail
 have hg:Tryz.prog.globalNamed "strconv.ErrSyntax" = some 3:=by kernel_rfl
 obtain ⟨a,s,hv,_⟩:=laid_sentinel h2 hg (show (Tryz.prog.globals[3]?).map (·.type)=some 25 by kernel_rfl) Tryz.underlying25 AoS Tryz.underlying232 Tryz.underlying234 rfl rfl Tryz.underlying9 (by kernel_rfl) (by kernel_rfl)
 exact ⟨a,Adl hg hv⟩
theorem AeJ {W:World} (h:laidMetH Tryz.prog Rows.wireStatusesUptoRow.laid W) (hsh:W.ShapedOpen Tryz.prog):∃ t0 a0 t1 a1 m,@Js (giM t0 a0 t1 a1 m) (fun b=>b<W.heap.size) W:=by
 have h':laidMet Tryz.prog [("math/bits.deBruijn32tab", Rows.laid_math_bits_deBruijn32tab),("math/bits.deBruijn64tab", Rows.laid_math_bits_deBruijn64tab),("internal/strconv.uint64pow10", Rows.laid_internal_strconv_uint64pow10),("unicode/utf8.acceptRanges", Rows.laid_unicode_utf8_acceptRanges),("strconv.ErrRange", Rows.laid_strconv_ErrRange),("strconv.ErrSyntax", Rows.laid_strconv_ErrSyntax),("unicode/utf8.first", Rows.laid_unicode_utf8_first)] W∧handlesMet Tryz.prog [("errors.errorType", Rows.laid_errors_errorType)] W:=h
 obtain ⟨a0,e0⟩:=VL h'.1
 obtain ⟨a1,e1⟩:=UZ h'.1
 obtain ⟨m,tt,fr,hh⟩:=Adg (k := .i64) (zero := #[.int .i64 0]) (g:=1) (t:=3) hsh (of_decide_eq_true (by kernel_rfl)) (by kernel_rfl) rfl (by kernel_rfl) (by kernel_rfl) Tryz.underlying3
 refine ⟨232,a0,232,a1,m,?_⟩
 letI:=giM 232 a0 232 a1 m
 intro g x hx
 have hm:=AhM hx
 have hm':(g,x)∈([(0,CZ),(7,Bf),(8,Be),(2,AO),(4,GV.one (.iface 232 (.pointer (some a0)))),(3,GV.one (.iface 232 (.pointer (some a1)))),(1,GV.one (.int .i64 m))]:List (Nat×GV)):=hm
 simp only [List.mem_cons,List.mem_nil_iff,or_false,Prod.mk.injEq] at hm'
 have key:∃ t fr,W.heap[g]?=some (.cells x.cells.toArray t fr):=by
  rcases hm' with ⟨rfl,rfl⟩ | ⟨rfl,rfl⟩ | ⟨rfl,rfl⟩ | ⟨rfl,rfl⟩ | ⟨rfl,rfl⟩ | ⟨rfl,rfl⟩ | ⟨rfl,rfl⟩
  ·exact Ab4 h'.2
  ·exact NW h'.1
  ·exact NM h'.1
  ·exact Jw h'.1
  ·exact e0
  ·exact e1
  ·exact ⟨tt,fr,hh⟩
 obtain ⟨t,fr,hk⟩:=key
 exact ⟨(Array.getElem?_eq_some_iff.1 hk).1,t,fr,hk⟩
noncomputable def Abu (os:Os):World :=
 let w0:=World.holding Tryz.prog os ⟨#[],#[.slice none 0 0,.slice none 0 0],[]⟩
 let w1:={ w0 with heap:=w0.heap.modify 0 fun
   | .cells _ t frozen => .cells CZ.cells.toArray t frozen
   | o=>o }
 let w2:={ w1 with heap:=w1.heap.modify 7 fun
   | .cells _ t frozen => .cells Bf.cells.toArray t frozen
   | o=>o }
 let w3:={ w2 with heap:=w2.heap.modify 8 fun
   | .cells _ t frozen => .cells Be.cells.toArray t frozen
   | o=>o }
 let w4:={ w3 with heap:=w3.heap.modify 2 fun
   | .cells _ t frozen => .cells AO.cells.toArray t frozen
   | o=>o }
 let w5:={ w4 with heap:=w4.heap.modify 6 fun
   | .cells _ t frozen => .cells (Ao5 Rows.laid_unicode_utf8_acceptRanges).toArray t frozen
   | o=>o }
 let w6:={ w5 with heap:=w5.heap.modify 5 fun
   | .cells _ t frozen => .cells (Ao5 Rows.laid_unicode_utf8_first).toArray t frozen
   | o=>o }
 let w7:={ w6 with heap:=(w6.heap.push (.cells #[.string ⟨([118,97,108,117,101,32,111,117,116,32,111,102,32,114,97,110,103,101]:List UInt8).toArray⟩] 234 (0,0))).modify 4 fun
   | .cells _ t frozen => .cells #[.iface 232 (.pointer (some ⟨w6.heap.size,0,none⟩))] t frozen
   | o=>o }
 let w8:={ w7 with heap:=(w7.heap.push (.cells #[.string ⟨([105,110,118,97,108,105,100,32,115,121,110,116,97,120]:List UInt8).toArray⟩] 234 (0,0))).modify 3 fun
   | .cells _ t frozen => .cells #[.iface 232 (.pointer (some ⟨w7.heap.size,0,none⟩))] t frozen
   | o=>o }
 w8
theorem Ade (os:Os) (args:Array Value):laidMetH Tryz.prog Rows.wireStatusesUptoRow.laid ((Abu os).forCall (fun _ _=>0) ⟨#[],args,[]⟩).memory :=
 laidMetH_of_parts (laidMet_of_run' 8 (by kernel_rfl) (by kernel_rfl)) (by kernel_rfl)
theorem reads (os:Os) {H:Type} (enc:TypeId×Value→H):∃ places,DataW.whole enc Tryz.prog ((Abu os).forCall (fun _ _=>0) ⟨#[],#[.slice none 0 0,.slice none 0 0],[]⟩).memory Tryz.f6.params.toList Rows.wireStatusesSpec.vars false (#[.slice none 0 0,.slice none 0 0]:Array Value).toList 8=some ([.nil,.nil],[],places):=⟨[],by kernel_rfl⟩
mutual
theorem AiL {H:Type}:∀ (d:DataW H) (n:Nat),n∈AfE d→n≤Rows.uptoBulk d
 | .lit l,n,h=>by
  cases l<;>first
   | (simp [AfE] at h; done)
   | (simp only [AfE,List.mem_singleton] at h; subst h; simp only [Rows.uptoBulk]; omega)
 | .slice el sp,n,h=>by
  rw [AfE] at h
  have:=Vb el n h
  simp only [Rows.uptoBulk]; omega
 | .agg ps,n,h=>by
  rw [AfE] at h
  have:=Vb ps n h
  simp only [Rows.uptoBulk]; omega
 | .nil,n,h=>by simp [AfE] at h
 | .ptr _,n,h=>by simp [AfE] at h
 | .iface _ _,n,h=>by simp [AfE] at h
 | .map _,n,h=>by simp [AfE] at h
 | .held _,n,h=>by simp [AfE] at h
theorem Vb {H:Type}:∀ (ds:List (DataW H)) (n:Nat),n∈Yo ds→n≤Rows.uptoBulkAll ds
 | [],n,h=>by simp [Yo] at h
 | d::ds,n,h=>by
  rw [Yo,List.mem_append] at h
  simp only [Rows.uptoBulkAll]
  rcases h with h | h
  ·have:=AiL d n h; omega
  ·have:=Vb ds n h; omega
end
theorem AnC {H:Type} {ds:List (DataW H)} (h:Rows.uptoSmall H (ds++[])=true):(Yo ds).all (· ≤ 1048576)=true:=by
 rw [List.append_nil] at h
 have h1:Rows.uptoBulkAll ds≤1048576:=of_decide_eq_true h
 exact List.all_eq_true.2 fun n hn=>decide_eq_true (Nat.le_trans (Vb ds n hn) h1)
theorem AmS:laidOutB Tryz.prog=true∧mapsRowed Tryz.prog=true :=
 have H:=ClosedOfChecked.allSpec_of Tryz.checked.wellFormed (by kernel_rfl:Tryz.checked.prog.types=Tryz.checked.src.types)
 ⟨ClosedOfChecked.laidOutB_of H (by kernel_rfl),ClosedOfChecked.mapsRowed_of H⟩
theorem F7 {a b:Bool} (h:a=true) (k:b=true):(a && b)=true:=by rw [h,k]; rfl
theorem Avo:(Rows.wireStatusesUptoRow.wf (OpenSpec.ofChange (Rows.OpenSpec.upto Rows.wireStatusesSpec).bare))=true:=by kernel_rfl
theorem Av4:(laidOutB Tryz.prog)=true:=AmS.1
theorem AwF:(mapsRowed Tryz.prog)=true:=AmS.2
theorem Axd:(Tryz.f6.params.all (Tryz.prog.readableRec ·))=true:=by kernel_rfl
theorem Avm:(namedTie Tryz.prog Rows.wireStatusesUptoRow.named (Rows.OpenSpec.upto Rows.wireStatusesSpec).bare.vars)=true:=by kernel_rfl
theorem Axn:((Rows.wireStatusesUptoRow.stops == []))=true:=by kernel_rfl
theorem AvT:((Tryz.prog.stops == []))=true:=by kernel_rfl
theorem Axp:((Rows.wireStatusesUptoRow.knobs == []))=true:=by kernel_rfl
theorem AwV:((Tryz.prog.stopKnobs == []))=true:=by kernel_rfl
theorem Aw3:((Rows.wireStatusesUptoRow.inPlace == Tryz.prog.inPlace 6))=true:=by kernel_rfl
theorem AsA:((Rows.wireStatusesUptoRow.unfollowed == Tryz.prog.unfollowed 6))=true:=by kernel_rfl
theorem Asb:((Rows.wireStatusesUptoRow.recurses == Tryz.prog.recurses 6))=true:=by kernel_rfl
theorem Auq:((Rows.wireStatusesUptoRow.named == Tryz.prog.varsNamed 6))=true:=by kernel_rfl
theorem Atu:((Rows.wireStatusesUptoRow.maps == (Tryz.f6.params.toList++(Rows.OpenSpec.upto Rows.wireStatusesSpec).bare.plain.varTypes Tryz.prog).any (Tryz.prog.mapsRec ·)))=true:=by kernel_rfl
theorem ArQ:((Rows.wireStatusesUptoRow.ifaces == (Tryz.f6.params.toList++(Rows.OpenSpec.upto Rows.wireStatusesSpec).bare.plain.varTypes Tryz.prog).any (Tryz.prog.ifacesRec ·)))=true:=by kernel_rfl
theorem AsO:((Rows.wireStatusesUptoRow.mapsOut == Tryz.prog.mapsAmong Tryz.f6.resultTypes.toList))=true:=by kernel_rfl
theorem Aux:((Rows.wireStatusesUptoRow.loops == (Tryz.f6.params.toList++(Rows.OpenSpec.upto Rows.wireStatusesSpec).bare.plain.varTypes Tryz.prog).any (Tryz.prog.loopsFrom ·)))=true:=by kernel_rfl
theorem AtN:((Rows.wireStatusesUptoRow.wideKeys == (Tryz.f6.params.toList++(Rows.OpenSpec.upto Rows.wireStatusesSpec).bare.plain.varTypes Tryz.prog++Tryz.f6.resultTypes.toList).any (Tryz.prog.wideKeysFrom ·)))=true:=by kernel_rfl
theorem Aty:((Rows.OpenSpec.upto Rows.wireStatusesSpec).bare.vars.all (Tryz.prog.varReadable ·))=true:=by kernel_rfl
theorem Aud:(Tryz.f6.resultTypes.all (fun t=>Tryz.prog.readableRec t && decide (t<Tryz.prog.types.size)))=true:=by kernel_rfl
theorem Atm:((Rows.wireStatusesUptoRow.ifacesOut == Tryz.f6.resultTypes.toList.any (Tryz.prog.ifacesRec ·)))=true:=by kernel_rfl
theorem AtU:((Rows.wireStatusesUptoRow.loopsOut == Tryz.f6.resultTypes.toList.any (Tryz.prog.loopsFrom ·)))=true:=by kernel_rfl
theorem AsU:((Rows.wireStatusesUptoRow.plainKeys == Tryz.prog.plainKeys))=true:=by kernel_rfl
theorem AsE:(Rows.wireStatusesUptoRow.shortTexts.isNone)=true:=by kernel_rfl
theorem AsB:(Tryz.prog.stopsHeard)=true:=by kernel_rfl
theorem At4:(Tryz.prog.mayEnter)=true:=by kernel_rfl
theorem AuN:((Rows.wireStatusesUptoRow.lifted == Tryz.prog.liftsFinal))=true:=by kernel_rfl
theorem AsX:((Tryz.prog.make == some Rows.wireStatusesUptoRow.make))=true:=by kernel_rfl
theorem At1:((Rows.wireStatusesUptoRow.kinds == (if Rows.wireStatusesUptoRow.domain.isEmpty then [] else Tryz.f6.params.toList.map fun t=>match Tryz.prog.underlying t with | some (.int k)=>some k | _=>none)))=true:=by kernel_rfl
theorem AtQ:((Rows.wireStatusesUptoRow.pinned == Rows.wireStatusesUptoRow.pinnedBy))=true:=by kernel_rfl
theorem Aut:((Rows.wireStatusesUptoRow.veiled == (Tryz.f6.params.toList++(Rows.OpenSpec.upto Rows.wireStatusesSpec).bare.plain.varTypes Tryz.prog++Tryz.f6.resultTypes.toList).any (Tryz.prog.veiledRec ·)))=true:=by kernel_rfl
theorem Asy:(Rows.wireStatusesUptoRow.veiledFits Tryz.prog Tryz.f6.params.toList (Tryz.f6.params.toList++(Rows.OpenSpec.upto Rows.wireStatusesSpec).bare.plain.varTypes Tryz.prog++Tryz.f6.resultTypes.toList))=true:=by kernel_rfl
set_option maxRecDepth 100000 in
theorem Ams:((Rows.wireStatusesUptoRow.wf (OpenSpec.ofChange (Rows.OpenSpec.upto Rows.wireStatusesSpec).bare)) && (laidOutB Tryz.prog) && (mapsRowed Tryz.prog) && (Tryz.f6.params.all (Tryz.prog.readableRec ·)) && (namedTie Tryz.prog Rows.wireStatusesUptoRow.named (Rows.OpenSpec.upto Rows.wireStatusesSpec).bare.vars) && ((Rows.wireStatusesUptoRow.stops == [])) && ((Tryz.prog.stops == [])) && ((Rows.wireStatusesUptoRow.knobs == [])) && ((Tryz.prog.stopKnobs == [])) && ((Rows.wireStatusesUptoRow.inPlace == Tryz.prog.inPlace 6)) && ((Rows.wireStatusesUptoRow.unfollowed == Tryz.prog.unfollowed 6)) && ((Rows.wireStatusesUptoRow.recurses == Tryz.prog.recurses 6)) && ((Rows.wireStatusesUptoRow.named == Tryz.prog.varsNamed 6)) && ((Rows.wireStatusesUptoRow.maps == (Tryz.f6.params.toList++(Rows.OpenSpec.upto Rows.wireStatusesSpec).bare.plain.varTypes Tryz.prog).any (Tryz.prog.mapsRec ·))) && ((Rows.wireStatusesUptoRow.ifaces == (Tryz.f6.params.toList++(Rows.OpenSpec.upto Rows.wireStatusesSpec).bare.plain.varTypes Tryz.prog).any (Tryz.prog.ifacesRec ·))) && ((Rows.wireStatusesUptoRow.mapsOut == Tryz.prog.mapsAmong Tryz.f6.resultTypes.toList)) && ((Rows.wireStatusesUptoRow.loops == (Tryz.f6.params.toList++(Rows.OpenSpec.upto Rows.wireStatusesSpec).bare.plain.varTypes Tryz.prog).any (Tryz.prog.loopsFrom ·))) && ((Rows.wireStatusesUptoRow.wideKeys == (Tryz.f6.params.toList++(Rows.OpenSpec.upto Rows.wireStatusesSpec).bare.plain.varTypes Tryz.prog++Tryz.f6.resultTypes.toList).any (Tryz.prog.wideKeysFrom ·))) && ((Rows.OpenSpec.upto Rows.wireStatusesSpec).bare.vars.all (Tryz.prog.varReadable ·)) && (Tryz.f6.resultTypes.all (fun t=>Tryz.prog.readableRec t && decide (t<Tryz.prog.types.size))) && ((Rows.wireStatusesUptoRow.ifacesOut == Tryz.f6.resultTypes.toList.any (Tryz.prog.ifacesRec ·))) && ((Rows.wireStatusesUptoRow.loopsOut == Tryz.f6.resultTypes.toList.any (Tryz.prog.loopsFrom ·))) && ((Rows.wireStatusesUptoRow.plainKeys == Tryz.prog.plainKeys)) && (Rows.wireStatusesUptoRow.shortTexts.isNone) && (Tryz.prog.stopsHeard) && (Tryz.prog.mayEnter) && ((Rows.wireStatusesUptoRow.lifted == Tryz.prog.liftsFinal)) && ((Tryz.prog.make == some Rows.wireStatusesUptoRow.make)) && ((Rows.wireStatusesUptoRow.kinds == (if Rows.wireStatusesUptoRow.domain.isEmpty then [] else Tryz.f6.params.toList.map fun t=>match Tryz.prog.underlying t with | some (.int k)=>some k | _=>none))) && ((Rows.wireStatusesUptoRow.pinned == Rows.wireStatusesUptoRow.pinnedBy)) && ((Rows.wireStatusesUptoRow.veiled == (Tryz.f6.params.toList++(Rows.OpenSpec.upto Rows.wireStatusesSpec).bare.plain.varTypes Tryz.prog++Tryz.f6.resultTypes.toList).any (Tryz.prog.veiledRec ·))) && (Rows.wireStatusesUptoRow.veiledFits Tryz.prog Tryz.f6.params.toList (Tryz.f6.params.toList++(Rows.OpenSpec.upto Rows.wireStatusesSpec).bare.plain.varTypes Tryz.prog++Tryz.f6.resultTypes.toList)))=true:=(F7 (F7 (F7 (F7 (F7 (F7 (F7 (F7 (F7 (F7 (F7 (F7 (F7 (F7 (F7 (F7 (F7 (F7 (F7 (F7 (F7 (F7 (F7 (F7 (F7 (F7 (F7 (F7 (F7 (F7 (F7 Avo Av4) AwF) Axd) Avm) Axn) AvT) Axp) AwV) Aw3) AsA) Asb) Auq) Atu) ArQ) AsO) Aux) AtN) Aty) Aud) Atm) AtU) AsU) AsE) AsB) At4) AuN) AsX) At1) AtQ) Aut) Asy)
set_option maxRecDepth 100000 in
theorem AgH:joinedFacts Tryz.prog 6 Tryz.f6 (Rows.OpenSpec.upto Rows.wireStatusesSpec).bare Rows.wireStatusesUptoRow=true:=Ams
set_option maxRecDepth 100000 in
theorem lifted (os:Os) (started:os.Started) (H:Type) (enc:TypeId×Value→H) (F:Stop.Interp) :
  ReturnsInHanded {} Tryz.checked os 6 .any ((Rows.OpenSpec.upto Rows.wireStatusesSpec).preRow enc Tryz.prog Tryz.f6 Rows.wireStatusesUptoRow.domain false Rows.wireStatusesUptoRow.laid) (((Rows.OpenSpec.upto Rows.wireStatusesSpec).at F).post enc Tryz.prog Tryz.f6 false true false false):=by
 obtain ⟨places,hx⟩:=reads os enc
 refine returnsInHanded_of_row (C:=Tryz.checked) (s:=Rows.OpenSpec.upto Rows.wireStatusesSpec) own started (by kernel_rfl) Tryz.func6
  (witness_row_at (enc:=enc) (C:=Tryz.checked) false (Abu os) #[.slice none 0 0,.slice none 0 0] rfl (by kernel_rfl) (by kernel_rfl) (by kernel_rfl)
   (OpenSpec.preRow_of_cond 8 hx (by kernel_rfl) (fun k hk=>by cases hk; kernel_rfl) (by kernel_rfl) (Ade os _))) ?_
 intro W base args ds gs before hval0 hW hcnd hcond hsz0 hL hsh _
 obtain ⟨t0,a0,t1,a1,m,hG⟩:=AeJ hL hsh
 letI:AQ:=giM t0 a0 t1 a1 m
 haveI:CO:=YO t0 a0 t1 a1 m
 haveI:DF:=OI t0 a0 t1 a1 m
 haveI:DI:=OG t0 a0 t1 a1 m
 haveI:Ap:=KG t0 a0 t1 a1 m
 haveI:Az:=Yf t0 a0 t1 a1 m
 haveI:Au:=Xa t0 a0 t1 a1 m
 haveI:E8:=⟨m,by kernel_rfl⟩
 have hsz:(DataW.weightsEach Tryz.prog (Tryz.f6.params.toList++Rows.wireStatusesSpec.plain.varTypes Tryz.prog) (ds++gs)).all (· ≤ reachBytes)=true:=hsz0
 have hval:∀ (j:Nat) t v,Tryz.f6.params[j]?=some t→args[j]?=some v→Value.okWide Tryz.prog W .any base t v:=hval0
 have hW':=hW
 obtain ⟨p,q,hA0,hV,rfl,hfz,hnd⟩:=hW
 have hA:DataW.TrodAll enc Tryz.prog W 0 (fun _=>true) true Tryz.f6.params.toList args.toList ds p:=hA0
 obtain ⟨rfl,rfl⟩:=trodVars_none hV
 have hsz2:(DataW.weightsEach Tryz.prog Tryz.f6.params.toList ds).all (· ≤ reachBytes)=true:=by
  have e:Tryz.f6.params.toList++Rows.wireStatusesSpec.plain.varTypes Tryz.prog=Tryz.f6.params.toList:=by simp [ChangeSpec.plain,Rows.wireStatusesSpec]; rfl
  rw [e,List.append_nil] at hsz; exact hsz
 have hA':=hA
 have hps:(Tryz.f6.params.toList.all fun t=>Tryz.prog.readableRec t && decide (t<Tryz.prog.types.size))=true:=by kernel_rfl
 have hv2:∀ (j:Nat) t v,Tryz.f6.params.toList[j]?=some t→args.toList[j]?=some v→∃ base,Value.okWide Tryz.prog W .any base t v:=fun j t v h1 h2=>⟨base,hval j t v (by rw [←Array.getElem?_toList]; exact h1) (by rw [←Array.getElem?_toList]; exact h2)⟩
 rw [Tryz.params6] at hA hsz2 hv2
 obtain ⟨dsE,hdsE⟩:∃ x,x=ds:=⟨_,rfl⟩
 refine (AtJ (f:=6) (V5 (Aby (R:=1048576)) (ZY Tryz.underlying54) (fun _=>rfl) (V5 (Afv Tryz.underlying23 Tryz.underlying5 (by kernel_rfl) (by kernel_rfl)) (ZY Tryz.underlying23) (fun _=>rfl) Ac7)) (fun a h=>Af2 a.1 a.2.1 h.1.1 (fun r hr=>⟨Nat.le_trans (h.1.2 r hr).1 (by decide),(h.1.2 r hr).2⟩) h.2.1) hA hv2 hsz2 (AnC (hcond _ rfl)) (hG)).mono fun e W' ⟨he,bel⟩ => ?_
 subst he
 have hB:=XL AmS.1 bel hps hA'
 have hAo:=hA
 obtain ⟨v0,vs0,d0,ds0,p0,q0,ha0,hd0,hp0,h0,r0⟩:=trodAll_cons hAo
 obtain ⟨v1,vs1,d1,ds1,p1,q1,ha1,hd1,hp1,h1,r1⟩:=trodAll_cons r0
 obtain ⟨hz1,hz2,hz3⟩:=trodAll_nil r1
 have hd:ds=[d0,d1]:=by rw [hd0,hd1,hz2]
 subst hd
 exact ⟨_,rfl,_,_,_,[],_,[],hW',trodAll_mk1 (shut_bool Tryz.underlying4 _),hB,rfl,bel.frame _,fun h=>by cases h⟩
theorem over:Rows.wireStatusesUptoRow.holds Tryz.pinned (Rows.OpenSpec.upto Rows.wireStatusesSpec) :=
 OpenClaim.holds_of_cond 6 Tryz.f6 rfl rfl rfl rfl rfl rfl rfl ⟨rfl,rfl,rfl,rfl,rfl⟩ rfl rfl rfl rfl rfl (by kernel_rfl) Tryz.func6 AgH
  (of_decide_eq_true (by kernel_rfl)) (by unfold Func.isWrapper; first | (rw [if_pos (by decide +kernel)]; kernel_rfl) | (rw [if_neg (by decide +kernel)]; exact ⟨rfl,rfl⟩))
  (fun os started H enc _ F=>by rw [OpenClaim.pre_eq_preRow]; exact lifted os started H enc F)
theorem stands:(Tryz.f6.params.toList.all fun t => !Tryz.prog.wantsStandIn t)=true:=by kernel_rfl
theorem proved:Rows.WireStatusesUptoCardSaid :=
 Claim7.holds_tied_plain_at .later [] [.data,.data,.data,.data,.handle,.sentinel,.sentinel,.pinned] true (true, "1cd508813a7ab9180b6b047ca0db803201969f14fae151725a7c55c995d18096") true
  over (fun _ h=>by cases h) (by kernel_rfl) (fun _ h=>by cases h) wireStatusesUpto_row_tie rfl ⟨rfl,rfl⟩ (by kernel_rfl) rfl
  (fun f fn hf hfn=>by
   obtain rfl:f=6:=(Option.some.inj ((show Tryz.prog.funcNamed "gitlike/gitlikelaw12.WireStatuses" = some 6 by kernel_rfl).symm.trans hf)).symm
   obtain rfl:fn=Tryz.f6:=(Option.some.inj (Tryz.func6.symm.trans hfn)).symm
   exact ⟨by kernel_rfl,fun j t ht=>by
    rw [←Array.getElem?_toList] at ht
    have:=List.all_eq_true.1 stands t (List.mem_of_getElem? ht)
    exact (show Tryz.prog.wantsStandIn t=false by simpa using this)⟩)
  (by kernel_rfl)
#print axioms proved
end Go.Proofs.YtnikbdnebdmmiaaGreatDoor.wireStatuses
