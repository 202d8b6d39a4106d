/- WireStatusesUptoCard: the law, proved out of contracts of the functions that it reaches (texts merged; names shortened by a program). No condition is laid on it. -/
import Derived.Test.YtnikbdnebdmmiaaGreatDoorQF
import Derived.Test.YtnikbdnebdmmiaaGreatDoorQE
import Derived.Test.YtnikbdnebdmmiaaGreatDoorProg
import Derived.KernelRfl
import Derived.Lib.AtoiAll
import Derived.Lib.ItoaMem
import Derived.SevenTiedAt
import Derived.Test.YtnikbdnebdmmiaaGreatDoorCards
import Derived.Test.YtnikbdnebdmmiaaGreatDoorTie
import Derived.Test.YtnikbdnebdmmiaaGreatDoorRows
import Derived.WalkKit
import Derived.ProofKit
import Derived.OpenShut
import Derived.ShutString
import Derived.ChangeOld
import Derived.Below
import Derived.SizedLaws
import Derived.ChangeVars
import Derived.LaidLaws
import Derived.LaidHandle
import Derived.Stop.Joined
import Derived.Stop.LaidErr
import Derived.ClosedOfChecked
import Derived.Deep.DeepHandedRow
import Derived.JoinedCond
set_option linter.defProp false
set_option linter.unusedSectionVars false
set_option linter.unusedSimpArgs false
set_option linter.unusedVariables false
namespace Go.Proofs.YtnikbdnebdmmiaaGreatDoor
section
variable [AP]
set_option maxRecDepth 100000
def Eo:Af := .seq (.block 1 (.seq (.ops [po_ 15 (.idxA 2 (.t 11) (.t 13)),po_ 16 (.load true 2 (.t 15)),so_ 9 (.alloc (.agg [.val (.string (str [])),.val (.int .i64 ((0:Nat):Int))])),⟨none,.s (.store 2 (.t 9) (.t 16)),none⟩] [0,1,2,7,9,11,12,13])
 (.ops [mv_ 17 7,mv_ 18 2,po_ 19 (.load true 2 (.t 9)),so_ 20 (.callv (.t 18) [.t 19]),po_ 21 (.gen (.look .str (.val (.int .i64 ((0:Nat):Int))) false) [.t 17,.t 20]),po_ 22 (.bin 3 .add (.t 21) (ci_ 1)),⟨none,.s (.mupd .str (.t 17) (.t 20) (.t 22)),none⟩] [0,1,2,7,11,12,13])))
 (.ops [po_ 23 (.bin 3 .add (.t 13) (ci_ 1)),mv_ 13 23] [0,1,2,7,11,12,13])
def D8:Af := .seq (.cond (.t 14)
 (.skip)
 (.exit 0))
 Eo
def Ez:Af := .seq (.ops [po_ 14 (.bin 3 .lss (.t 13) (.t 12))] [0,1,2,7,11,12,13,14])
 D8
def DT:Af := .block 0 (.loop [0,1,2,7,11,12,13] Ez)
def DV:Af := .seq (.ops [mv_ 24 7,po_ 25 (.gen .lenM [.t 24]),mv_ 26 0,po_ 27 (.lenV (.t 26)),po_ 28 (.bin 3 .eql (.t 25) (.t 27)),mv_ 29 28,⟨some 30,.p (.mov (.t 0)),some ⟨29,true⟩⟩,⟨some 31,.p (.lenV (.t 30)),some ⟨29,true⟩⟩,⟨some 32,.p (.mov (.t 1)),some ⟨29,true⟩⟩,⟨some 33,.p (.bin 3 .leq (.t 31) (.t 32)),some ⟨29,true⟩⟩,po_ 34 (.pick (.t 29) (.t 33) (.c (.bool false))),mv_ 6 34] [6])
 (.ret)
def DR:Af := .seq (.seq (.ops [mv_ 11 0,po_ 12 (.lenV (.t 11)),po_ 13 (.mov (ci_ 0))] [0,1,2,7,11,12,13])
 DT)
 DV
def Ei:Af := .seq (.ops [so_ 10 (.mkm .str none),mv_ 7 10] [0,1,2,7])
 DR
def ER:Af := .seq (.ops [po_ 6 (.mov (.c (.bool false)))] [0,1,2])
 Ei
def ET:List VR:=[.tmp 6]
theorem LG:Tryz.f48.body.bind (trC Tryz.prog Tryz.f48.ntmps)=some (er ER):=by kernel_rfl
theorem LK:trR Tryz.prog Tryz.f48.results.toList=some ET:=by kernel_rfl
def GU:=Ac Eo.eq_1
def Bh:=Ac D8.eq_1
def Bl:=Ac Ez.eq_1
def GK:=Ac DT.eq_1
def BP:=Ac DV.eq_1
def GI:=Ac DR.eq_1
def G8:=Ac Ei.eq_1
def JE:=Ac ER.eq_1
theorem CG {K:TV→Prop} {e:Env} {H:List Ob}:res ET e H K=res [.tmp 6] e H K:=Aa rfl
def Lu:=Dj 35 Tryz.func48 LG LK rfl
def L8:Af := .seq (.ops [so_ 1 (.box (.t 0)),po_ 2 (.mov (.c (.string (str []))))] [1])
 (.seq (.ops [po_ 3 (.fieldA 0 0 (.t 1)),po_ 4 (.load false 1 (.t 3)),mv_ 2 4] [2])
 (.ret))
def MB:List VR:=[.tmp 2]
theorem Vo:Tryz.f49.body.bind (trC Tryz.prog Tryz.f49.ntmps)=some (er L8):=by kernel_rfl
theorem Vy:trR Tryz.prog Tryz.f49.results.toList=some MB:=by kernel_rfl
def TF:=Ac L8.eq_1
theorem Tv {K:TV→Prop} {e:Env} {H:List Ob}:res MB e H K=res [.tmp 2] e H K:=Aa rfl
def Vz:=(And.intro @TF @Tv)
def UT:=Dj 5 Tryz.func49 Vo Vy rfl
def Lc:Af := .draw 6 [mv_ 42 4,po_ 43 (.fieldA 0 0 (.t 6)),po_ 44 (.load false 1 (.t 43)),po_ 45 (.fieldA 1 1 (.t 6)),po_ 46 (.load false 1 (.t 45)),so_ 47 (.call 50 [.t 46]),⟨some 48,.s (.bslice 1 3 (.val (.string (str []))) [⟨0,.c (.string (str [110,103]))⟩,⟨1,.t 44⟩,⟨2,.t 47⟩]),none⟩,so_ 49 (.call 29 [.t 42,.t 48])] [4,13,14,15]
def J8:Af := .cond (.t 36)
 (.ops [mv_ 37 4,po_ 38 (.fieldA 0 0 (.t 6)),po_ 39 (.load false 1 (.t 38)),⟨some 40,.s (.bslice 1 2 (.val (.string (str []))) [⟨0,.c (.string (str [111,107]))⟩,⟨1,.t 39⟩]),none⟩,so_ 41 (.call 29 [.t 37,.t 40])] [4,13,14,15])
 Lc
def KL:Af := .seq (.ops [po_ 34 (.fieldA 1 1 (.t 6)),po_ 35 (.load false 1 (.t 34)),po_ 36 (.bin 33 .eql (.t 35) (ci_ 0))] [4,6,13,14,15,36])
 J8
def J6:Af := .seq (.ops [mv_ 19 4,po_ 20 (.fieldA 0 0 (.t 6)),po_ 21 (.load false 1 (.t 20)),so_ 22 (.call 40 [.t 21]),mv_ 23 22,⟨some 24,.p (.fieldA 1 1 (.t 6)),some ⟨23,true⟩⟩,⟨some 25,.p (.load false 1 (.t 24)),some ⟨23,true⟩⟩,⟨some 26,.p (.bin 33 .geq (.t 25) (ci_ 0)),some ⟨23,true⟩⟩,po_ 27 (.pick (.t 23) (.t 26) (.c (.bool false))),mv_ 28 27,⟨some 29,.p (.fieldA 1 1 (.t 6)),some ⟨28,true⟩⟩,⟨some 30,.p (.load false 1 (.t 29)),some ⟨28,true⟩⟩,⟨some 31,.p (.bin 33 .leq (.t 30) (ci_ 999)),some ⟨28,true⟩⟩,po_ 32 (.pick (.t 28) (.t 31) (.c (.bool false))),so_ 33 (.call 27 [.t 19,.t 32])] [4,6,13,14,15])
 KL
def KW:Af := .seq (.block 1 (.seq (.ops [po_ 17 (.idxA 2 (.t 13) (.t 15)),po_ 18 (.load true 2 (.t 17)),so_ 6 (.alloc (.agg [.val (.string (str [])),.val (.int .i64 ((0:Nat):Int))])),⟨none,.s (.store 2 (.t 6) (.t 18)),none⟩] [4,6,13,14,15])
 J6))
 (.ops [po_ 50 (.bin 3 .add (.t 15) (ci_ 1)),mv_ 15 50] [4,13,14,15])
def KE:Af := .seq (.cond (.t 16)
 (.skip)
 (.exit 0))
 KW
def KI:Af := .seq (.ops [po_ 16 (.bin 3 .lss (.t 15) (.t 14))] [4,13,14,15,16])
 KE
def KR:Af := .block 0 (.loop [4,13,14,15] KI)
def KJ:Af := .seq (.ops [mv_ 51 4,so_ 52 (.call 31 [.t 51])] [4])
 (.seq (.ops [mv_ 53 4,so_ 54 (.call 32 [.t 53]),po_ 55 (.ext 0 (.t 54)),po_ 56 (.ext 1 (.t 54)),mv_ 2 55,mv_ 3 56] [2,3])
 (.ret))
def IK:Af := .seq (.seq (.ops [mv_ 13 0,po_ 14 (.lenV (.t 13)),po_ 15 (.mov (ci_ 0))] [4,13,14,15])
 KR)
 KJ
def Jh:Af := .seq (.ops [mv_ 9 4,mv_ 10 0,so_ 11 (.call 48 [.t 10,.c (.int .i64 ((500:Nat):Int)),.c (.func (.func 49) #[] #[])]),so_ 12 (.call 27 [.t 9,.t 11])] [0,4])
 IK
def Jj:Af := .seq (.ops [po_ 7 (.build [.val (.slice none 0 0),.val (.bool false)] [1,1] []),so_ 8 (.box (.t 7)),mv_ 4 8] [0,4])
 Jh
def Oa:Af := .seq (.ops [po_ 2 (.mov (.c (.slice none 0 0))),po_ 3 (.mov (.c .nilIface))] [0])
 Jj
def Oo:List VR:=[.tmp 2,.tmp 3]
theorem Yt:Tryz.f23.body.bind (trC Tryz.prog Tryz.f23.ntmps)=some (er Oa):=by kernel_rfl
theorem YF:trR Tryz.prog Tryz.f23.results.toList=some Oo:=by kernel_rfl
def QR:=Ac Lc.eq_1
def Ij:=Ac J8.eq_1
def IC:=Ac KL.eq_1
def QT:=Ac J6.eq_1
def Q3:=Ac KW.eq_1
def H6:=Ac KE.eq_1
def IE:=Ac KI.eq_1
def QJ:=Ac KR.eq_1
def Ri:=Ac KJ.eq_1
def PN:=Ac IK.eq_1
def Ql:=Ac Jh.eq_1
def Qs:=Ac Jj.eq_1
def VM:=Ac Oa.eq_1
theorem LP {K:TV→Prop} {e:Env} {H:List Ob}:res Oo e H K=res [.tmp 2,.tmp 3] e H K:=Aa rfl
def WQ:=Dj 57 Tryz.func23 Yt YF rfl
def LV:Af := .ops [mv_ 37 6,mv_ 38 8,po_ 39 (.idxA 1 (.t 38) (ci_ 1)),po_ 40 (.load false 1 (.t 39)),⟨some 41,.p (.build [.val (.string (str [])),.val (.int .i64 ((0:Nat):Int))] [1,1] [⟨0,.t 40⟩]),none⟩,⟨some 42,.s (.bslice 2 1 (.agg [.val (.string (str [])),.val (.int .i64 ((0:Nat):Int))]) [⟨0,.t 41⟩]),none⟩,so_ 43 (.app 2 24 57 (.t 37) (.t 42)),mv_ 6 43] [0,6,21,22,23]
def MC:Af := .seq (.ops [mv_ 55 8,po_ 56 (.idxA 1 (.t 55) (ci_ 2)),po_ 57 (.load false 1 (.t 56)),so_ 58 (.call 84 [.t 57]),mv_ 54 58,po_ 59 (.ext 0 (.t 54)),po_ 60 (.ext 1 (.t 54)),mv_ 9 59,mv_ 10 60] [0,6,8,9,21,22,23])
 (.ops [mv_ 61 6,mv_ 62 8,po_ 63 (.idxA 1 (.t 62) (ci_ 1)),po_ 64 (.load false 1 (.t 63)),mv_ 65 9,⟨some 66,.p (.build [.val (.string (str [])),.val (.int .i64 ((0:Nat):Int))] [1,1] [⟨0,.t 64⟩,⟨1,.t 65⟩]),none⟩,⟨some 67,.s (.bslice 2 1 (.agg [.val (.string (str [])),.val (.int .i64 ((0:Nat):Int))]) [⟨0,.t 66⟩]),none⟩,so_ 68 (.app 2 24 57 (.t 61) (.t 67)),mv_ 6 68] [0,6,21,22,23])
def LU:Af := .cond (.t 44)
 MC
 (.skip)
def LY:Af := .seq (.ops [mv_ 45 8,po_ 46 (.lenV (.t 45)),po_ 47 (.bin 3 .eql (.t 46) (ci_ 3)),mv_ 48 47,⟨some 49,.p (.mov (.t 8)),some ⟨48,true⟩⟩,⟨some 50,.p (.idxA 1 (.t 49) (ci_ 0)),some ⟨48,true⟩⟩,⟨some 51,.p (.load false 1 (.t 50)),some ⟨48,true⟩⟩,⟨some 52,.p (.bin 9 .eql (.t 51) (.c (.string (str [110,103])))),some ⟨48,true⟩⟩,po_ 53 (.pick (.t 48) (.t 52) (.c (.bool false))),mv_ 44 53] [0,6,8,21,22,23,44])
 LU
def Mc:Af := .cond (.t 27)
 LV
 LY
def Me:Af := .block 2 (.seq (.ops [mv_ 28 8,po_ 29 (.lenV (.t 28)),po_ 30 (.bin 3 .eql (.t 29) (ci_ 2)),mv_ 31 30,⟨some 32,.p (.mov (.t 8)),some ⟨31,true⟩⟩,⟨some 33,.p (.idxA 1 (.t 32) (ci_ 0)),some ⟨31,true⟩⟩,⟨some 34,.p (.load false 1 (.t 33)),some ⟨31,true⟩⟩,⟨some 35,.p (.bin 9 .eql (.t 34) (.c (.string (str [111,107])))),some ⟨31,true⟩⟩,po_ 36 (.pick (.t 31) (.t 35) (.c (.bool false))),mv_ 27 36] [0,6,8,21,22,23,27])
 Mc)
def MF:Af := .seq (.block 1 (.seq (.ops [po_ 25 (.idxA 1 (.t 21) (.t 23)),po_ 26 (.load false 1 (.t 25)),mv_ 8 26] [0,6,8,21,22,23])
 Me))
 (.ops [po_ 69 (.bin 3 .add (.t 23) (ci_ 1)),mv_ 23 69] [0,6,21,22,23])
def LX:Af := .seq (.cond (.t 24)
 (.skip)
 (.exit 0))
 MF
def L9:Af := .seq (.ops [po_ 24 (.bin 3 .lss (.t 23) (.t 22))] [0,6,21,22,23,24])
 LX
def Kt:Af := .block 0 (.own 6 2 (.loop [0,6,21,22,23] L9))
def J3:Af := .seq (.seq (.ops [mv_ 75 0,mv_ 76 11,mv_ 77 5,so_ 78 (.call 66 [.t 75,.t 76,.t 77]),mv_ 12 78] [6,12])
 (.seq (.ops [mv_ 79 12,po_ 80 (.eqN 1 (.t 79) (.c .nilIface) true)] [6,12,80])
 (.cond (.t 80)
 (.seq (.ops [mv_ 81 12,po_ 2 (.mov (.c (.slice none 0 0))),mv_ 3 81] [2,3])
  (.ret))
 (.skip))))
 (.seq (.ops [mv_ 82 6,so_ 83 (.call 85 [.t 82]),mv_ 2 83,po_ 3 (.mov (.c .nilIface))] [2,3])
 (.ret))
def KZ:Af := .seq (.ops [mv_ 71 6,so_ 72 (.call 23 [.t 71]),mv_ 70 72,po_ 73 (.ext 0 (.t 70)),po_ 74 (.ext 1 (.t 70)),mv_ 11 73,mv_ 5 74] [0,5,6,11])
 J3
def J5:Af := .seq (.seq (.ops [mv_ 21 4,po_ 22 (.lenV (.t 21)),po_ 23 (.mov (ci_ 0))] [0,6,21,22,23])
 Kt)
 KZ
def J7:Af := .seq (.ops [po_ 6 (.mov (.c (.slice none 0 0)))] [0,4,6])
 J5
def Lh:Af := .seq (.seq (.ops [mv_ 18 5,po_ 19 (.eqN 1 (.t 18) (.c .nilIface) true)] [0,4,5,19])
 (.cond (.t 19)
 (.seq (.ops [mv_ 20 5,po_ 2 (.mov (.c (.slice none 0 0))),mv_ 3 20] [2,3])
  (.ret))
 (.skip)))
 J7
def KG:Af := .seq (.ops [mv_ 14 0,so_ 15 (.call 64 [.t 14]),mv_ 13 15,po_ 16 (.ext 0 (.t 13)),po_ 17 (.ext 1 (.t 13)),mv_ 4 16,mv_ 5 17] [0,4,5])
 Lh
def Pv:Af := .seq (.ops [po_ 2 (.mov (.c (.slice none 0 0))),po_ 3 (.mov (.c .nilIface))] [0])
 KG
def P8:List VR:=[.tmp 2,.tmp 3]
theorem Zm:Tryz.f52.body.bind (trC Tryz.prog Tryz.f52.ntmps)=some (er Pv):=by kernel_rfl
theorem Y9:trR Tryz.prog Tryz.f52.results.toList=some P8:=by kernel_rfl
def TB:=Ac LV.eq_1
def TA:=Ac MC.eq_1
def Di:=Ac LU.eq_1
def Df:=Ac LY.eq_1
def Cm:=Ac Mc.eq_1
def Cj:=Ac Me.eq_1
def CB:=Ac MF.eq_1
def BI:=Ac LX.eq_1
def BH:=Ac L9.eq_1
def Rx:=Ac Kt.eq_1
def Iy:=Ac J3.eq_1
def Rk:=Ac KZ.eq_1
def Rz:=Ac J5.eq_1
def Rn:=Ac J7.eq_1
def Ie:=Ac Lh.eq_1
def QU:=Ac KG.eq_1
def WA:=Ac Pv.eq_1
theorem EM {K:TV→Prop} {e:Env} {H:List Ob}:res P8 e H K=res [.tmp 2,.tmp 3] e H K:=Aa rfl
def XL:=Dj 84 Tryz.func52 Zm Y9 rfl
def I4:Af := .seq (.block 3 (.seq (.draw 5 [mv_ 47 0,mv_ 48 7,po_ 49 (.idxA 2 (.t 47) (.t 48)),po_ 50 (.fieldA 0 0 (.t 49)),po_ 51 (.load false 1 (.t 50)),mv_ 52 0,mv_ 53 5,po_ 54 (.idxA 2 (.t 52) (.t 53)),po_ 55 (.fieldA 0 0 (.t 54)),po_ 56 (.load false 1 (.t 55)),po_ 57 (.bin 9 .eql (.t 51) (.t 56))] [0,4,5,7,57])
 (.cond (.t 57)
 (.seq (.ops [po_ 2 (.mov (.c (.slice none 0 0))),po_ 3 (.mov (ci_ 111))] [2,3])
  (.ret))
 (.skip))))
 (.ops [mv_ 45 7,po_ 46 (.bin 3 .add (.t 45) (ci_ 1)),mv_ 7 46] [0,4,5,7])
def EX:Af := .seq (.seq (.ops [mv_ 42 7,mv_ 43 5,po_ 44 (.bin 3 .lss (.t 42) (.t 43))] [0,4,5,7,44])
 (.cond (.t 44)
 (.skip)
 (.exit 2)))
 I4
def Jq:Af := .block 2 (.loop [0,4,5,7] EX)
def Jn:Af := .draw 13 [mv_ 71 0,mv_ 72 5,po_ 73 (.idxA 2 (.t 71) (.t 72)),po_ 74 (.fieldA 0 0 (.t 73)),po_ 75 (.load false 1 (.t 74)),po_ 76 (.bin 9 .add (.c (.string (str [110,103,32]))) (.t 75)),po_ 77 (.bin 9 .add (.t 76) (.c (.string (str [32])))),mv_ 78 0,mv_ 79 5,po_ 80 (.idxA 2 (.t 78) (.t 79)),po_ 81 (.fieldA 1 1 (.t 80)),po_ 82 (.load false 1 (.t 81)),so_ 83 (.call 51 [.t 82]),po_ 84 (.bin 9 .add (.t 77) (.t 83)),so_ 85 (.call 34 [.t 84]),mv_ 8 85] [0,4,5,8]
def Js:Af := .cond (.t 70)
 Jn
 (.skip)
def IU:Af := .seq (.seq (.ops [mv_ 65 0,mv_ 66 5,po_ 67 (.idxA 2 (.t 65) (.t 66)),po_ 68 (.fieldA 1 1 (.t 67)),po_ 69 (.load false 1 (.t 68)),po_ 70 (.bin 3 .gtr (.t 69) (ci_ 0))] [0,4,5,8,70])
 Js)
 (.ops [mv_ 86 4,mv_ 87 8,so_ 88 (.app 1 1 5 (.t 86) (.t 87)),mv_ 4 88] [0,4,5])
def IX:Af := .seq (.ops [mv_ 58 0,mv_ 59 5,po_ 60 (.idxA 2 (.t 58) (.t 59)),po_ 61 (.fieldA 0 0 (.t 60)),po_ 62 (.load false 1 (.t 61)),po_ 63 (.bin 9 .add (.c (.string (str [111,107,32]))) (.t 62)),so_ 64 (.call 34 [.t 63]),mv_ 8 64] [0,4,5,8])
 IU
def Jc:Af := .seq (.seq (.ops [po_ 7 (.mov (ci_ 0))] [0,4,5,7])
 Jq)
 IX
def IZ:Af := .seq (.seq (.ops [mv_ 24 6,po_ 25 (.un .not (.t 24)),mv_ 26 25,⟨some 27,.p (.mov (.t 0)),some ⟨26,false⟩⟩,⟨some 28,.p (.mov (.t 5)),some ⟨26,false⟩⟩,⟨some 29,.p (.idxA 2 (.t 27) (.t 28)),some ⟨26,false⟩⟩,⟨some 30,.p (.fieldA 1 1 (.t 29)),some ⟨26,false⟩⟩,⟨some 31,.p (.load false 1 (.t 30)),some ⟨26,false⟩⟩,⟨some 32,.p (.bin 3 .lss (.t 31) (ci_ 0)),some ⟨26,false⟩⟩,po_ 33 (.pick (.t 26) (.c (.bool true)) (.t 32)),mv_ 34 33,⟨some 35,.p (.mov (.t 0)),some ⟨34,false⟩⟩,⟨some 36,.p (.mov (.t 5)),some ⟨34,false⟩⟩,⟨some 37,.p (.idxA 2 (.t 35) (.t 36)),some ⟨34,false⟩⟩,⟨some 38,.p (.fieldA 1 1 (.t 37)),some ⟨34,false⟩⟩,⟨some 39,.p (.load false 1 (.t 38)),some ⟨34,false⟩⟩,⟨some 40,.p (.bin 3 .gtr (.t 39) (ci_ 999)),some ⟨34,false⟩⟩,po_ 41 (.pick (.t 34) (.c (.bool true)) (.t 40))] [0,4,5,41])
 (.cond (.t 41)
 (.seq (.ops [po_ 2 (.mov (.c (.slice none 0 0))),po_ 3 (.mov (ci_ 111))] [2,3])
  (.ret))
 (.skip)))
 Jc
def Iz:Af := .ops [mv_ 16 5,po_ 17 (.bin 3 .add (.t 16) (ci_ 1)),mv_ 5 17] [0,4,5]
def Hf:Af := .seq (.block 1 (.seq (.ops [mv_ 18 0,mv_ 19 5,po_ 20 (.idxA 2 (.t 18) (.t 19)),po_ 21 (.fieldA 0 0 (.t 20)),po_ 22 (.load false 1 (.t 21)),so_ 23 (.call 41 [.t 22]),mv_ 6 23] [0,4,5,6])
 IZ))
 Iz
def Hl:Af := .seq (.seq (.ops [mv_ 12 5,mv_ 13 0,po_ 14 (.lenV (.t 13)),po_ 15 (.bin 3 .lss (.t 12) (.t 14))] [0,4,5,15])
 (.cond (.t 15)
 (.skip)
 (.exit 0)))
 Hf
def Hy:Af := .block 0 (.own 4 1 (.loop [0,4,5] Hl))
def Ia:Af := .seq (.ops [mv_ 89 4,so_ 90 (.appS 5 (.t 89) (.c (.string (str [48,48,48,48])))),mv_ 2 90,po_ 3 (.mov (ci_ 0))] [2,3])
 (.ret)
def H5:Af := .seq (.seq (.ops [po_ 5 (.mov (ci_ 0))] [0,4,5])
 Hy)
 Ia
def IB:Af := .seq (.seq (.ops [mv_ 9 0,po_ 10 (.lenV (.t 9)),po_ 11 (.bin 3 .gtr (.t 10) (ci_ 500))] [0,4,11])
 (.cond (.t 11)
 (.seq (.ops [po_ 2 (.mov (.c (.slice none 0 0))),po_ 3 (.mov (ci_ 111))] [2,3])
  (.ret))
 (.skip)))
 H5
def Il:Af := .seq (.ops [po_ 4 (.mov (.c (.slice none 0 0)))] [0,4])
 IB
def Nr:Af := .seq (.ops [po_ 2 (.mov (.c (.slice none 0 0))),po_ 3 (.mov (ci_ 0))] [0])
 Il
def F9:List VR:=[.tmp 2,.tmp 3]
theorem Xi:Tryz.f24.body.bind (trC Tryz.prog Tryz.f24.ntmps)=some (er Nr):=by kernel_rfl
theorem Xb:trR Tryz.prog Tryz.f24.results.toList=some F9:=by kernel_rfl
def Gj:=Ac I4.eq_1
def EG:=Ac EX.eq_1
def QA:=Ac Jq.eq_1
def Ph:=Ac Jn.eq_1
def Gy:=Ac Js.eq_1
def Gg:=Ac IU.eq_1
def P7:=Ac IX.eq_1
def PM:=Ac Jc.eq_1
def CP:=Ac IZ.eq_1
def FQ:=Ac Iz.eq_1
def OJ:=Ac Hf.eq_1
def FC:=Ac Hl.eq_1
def OG:=Ac Hy.eq_1
def O3:=Ac Ia.eq_1
def OL:=Ac H5.eq_1
def FP:=Ac IB.eq_1
def FB:=Ac Il.eq_1
def KU:=Ac Nr.eq_1
theorem KX {K:TV→Prop} {e:Env} {H:List Ob}:res F9 e H K=res [.tmp 2,.tmp 3] e H K:=Aa rfl
def Vs:=Dj 91 Tryz.func24 Xi Xb rfl
def Kv:Af := .ops [mv_ 40 6,mv_ 41 8,po_ 42 (.idxA 1 (.t 41) (ci_ 1)),po_ 43 (.load false 1 (.t 42)),⟨some 44,.p (.build [.val (.string (str [])),.val (.int .i64 ((0:Nat):Int))] [1,1] [⟨0,.t 43⟩]),none⟩,⟨some 45,.s (.bslice 2 1 (.agg [.val (.string (str [])),.val (.int .i64 ((0:Nat):Int))]) [⟨0,.t 44⟩]),none⟩,so_ 46 (.app 2 24 59 (.t 40) (.t 45)),mv_ 6 46] [0,4,6,7,8]
def Kw:Af := .seq (.block 3 (.ops [mv_ 68 9,po_ 69 (.bin 3 .mul (.t 68) (ci_ 10)),mv_ 70 8,po_ 71 (.idxA 1 (.t 70) (ci_ 2)),po_ 72 (.load false 1 (.t 71)),mv_ 73 10,po_ 74 (.idxS (.t 72) (.t 73)),po_ 75 (.conv .i64 (.t 74)),po_ 76 (.bin 3 .add (.t 69) (.t 75)),po_ 77 (.bin 3 .sub (.t 76) (ci_ 48)),mv_ 9 77] [0,4,6,7,8,9,10]))
 (.ops [mv_ 66 10,po_ 67 (.bin 3 .add (.t 66) (ci_ 1)),mv_ 10 67] [0,4,6,7,8,9,10])
def Fg:Af := .seq (.seq (.ops [mv_ 56 10,mv_ 57 8,po_ 58 (.idxA 1 (.t 57) (ci_ 2)),po_ 59 (.load false 1 (.t 58)),po_ 60 (.lenS (.t 59)),po_ 61 (.bin 3 .lss (.t 56) (.t 60)),mv_ 62 61,⟨some 63,.p (.mov (.t 10)),some ⟨62,true⟩⟩,⟨some 64,.p (.bin 3 .lss (.t 63) (ci_ 4)),some ⟨62,true⟩⟩,po_ 65 (.pick (.t 62) (.t 64) (.c (.bool false)))] [0,4,6,7,8,9,10,65])
 (.cond (.t 65)
 (.skip)
 (.exit 2)))
 Kw
def J9:Af := .block 2 (.loop [0,4,6,7,8,9,10] Fg)
def Lm:Af := .ops [mv_ 78 6,mv_ 79 8,po_ 80 (.idxA 1 (.t 79) (ci_ 1)),po_ 81 (.load false 1 (.t 80)),mv_ 82 9,⟨some 83,.p (.build [.val (.string (str [])),.val (.int .i64 ((0:Nat):Int))] [1,1] [⟨0,.t 81⟩,⟨1,.t 82⟩]),none⟩,⟨some 84,.s (.bslice 2 1 (.agg [.val (.string (str [])),.val (.int .i64 ((0:Nat):Int))]) [⟨0,.t 83⟩]),none⟩,so_ 85 (.app 2 24 59 (.t 78) (.t 84)),mv_ 6 85] [0,4,6,7]
def La:Af := .seq (.seq (.ops [po_ 10 (.mov (ci_ 0))] [0,4,6,7,8,9,10])
 J9)
 Lm
def Ls:Af := .seq (.ops [po_ 9 (.mov (ci_ 0))] [0,4,6,7,8,9])
 La
def Lr:Af := .cond (.t 55)
 Ls
 (.skip)
def Ky:Af := .seq (.ops [mv_ 47 8,po_ 48 (.lenV (.t 47)),po_ 49 (.bin 3 .eql (.t 48) (ci_ 3)),mv_ 50 49,⟨some 51,.p (.mov (.t 8)),some ⟨50,true⟩⟩,⟨some 52,.p (.idxA 1 (.t 51) (ci_ 0)),some ⟨50,true⟩⟩,⟨some 53,.p (.load false 1 (.t 52)),some ⟨50,true⟩⟩,⟨some 54,.p (.bin 9 .eql (.t 53) (.c (.string (str [110,103])))),some ⟨50,true⟩⟩,po_ 55 (.pick (.t 50) (.t 54) (.c (.bool false)))] [0,4,6,7,8,55])
 Lr
def Jt:Af := .seq (.seq (.ops [mv_ 31 8,po_ 32 (.lenV (.t 31)),po_ 33 (.bin 3 .eql (.t 32) (ci_ 2)),mv_ 34 33,⟨some 35,.p (.mov (.t 8)),some ⟨34,true⟩⟩,⟨some 36,.p (.idxA 1 (.t 35) (ci_ 0)),some ⟨34,true⟩⟩,⟨some 37,.p (.load false 1 (.t 36)),some ⟨34,true⟩⟩,⟨some 38,.p (.bin 9 .eql (.t 37) (.c (.string (str [111,107])))),some ⟨34,true⟩⟩,po_ 39 (.pick (.t 34) (.t 38) (.c (.bool false)))] [0,4,6,7,8,39])
 (.cond (.t 39)
 Kv
 (.skip)))
 Ky
def Je:Af := .ops [mv_ 24 7,po_ 25 (.bin 3 .add (.t 24) (ci_ 1)),mv_ 7 25] [0,4,6,7]
def IQ:Af := .seq (.block 1 (.seq (.ops [mv_ 26 4,mv_ 27 7,po_ 28 (.idxA 1 (.t 26) (.t 27)),po_ 29 (.load false 1 (.t 28)),so_ 30 (.call 68 [.t 29]),mv_ 8 30] [0,4,6,7,8])
 Jt))
 Je
def IW:Af := .seq (.seq (.ops [mv_ 20 7,mv_ 21 4,po_ 22 (.lenV (.t 21)),po_ 23 (.bin 3 .lss (.t 20) (.t 22))] [0,4,6,7,23])
 (.cond (.t 23)
 (.skip)
 (.exit 0)))
 IQ
def IV:Af := .block 0 (.own 6 2 (.loop [0,4,6,7] IW))
def Ji:Af := .seq (.seq (.ops [mv_ 91 12,po_ 92 (.bin 3 .neq (.t 91) (ci_ 0)),mv_ 93 92,⟨some 94,.p (.mov (.t 11)),some ⟨93,false⟩⟩,⟨some 95,.p (.b2s (.t 94)),some ⟨93,false⟩⟩,⟨some 96,.p (.mov (.t 0)),some ⟨93,false⟩⟩,⟨some 97,.p (.b2s (.t 96)),some ⟨93,false⟩⟩,⟨some 98,.p (.bin 9 .neq (.t 95) (.t 97)),some ⟨93,false⟩⟩,po_ 99 (.pick (.t 93) (.c (.bool true)) (.t 98))] [6,99])
 (.cond (.t 99)
 (.seq (.ops [po_ 2 (.mov (.c (.slice none 0 0))),po_ 3 (.mov (ci_ 111))] [2,3])
  (.ret))
 (.skip)))
 (.seq (.ops [mv_ 100 6,mv_ 2 100,po_ 3 (.mov (ci_ 0))] [2,3])
 (.ret))
def Jk:Af := .seq (.ops [mv_ 87 6,so_ 88 (.call 24 [.t 87]),mv_ 86 88,po_ 89 (.ext 0 (.t 86)),po_ 90 (.ext 1 (.t 86)),mv_ 11 89,mv_ 12 90] [0,6,11,12])
 Ji
def IP:Af := .seq (.seq (.ops [po_ 7 (.mov (ci_ 0))] [0,4,6,7])
 IV)
 Jk
def IR:Af := .seq (.ops [po_ 6 (.mov (.c (.slice none 0 0)))] [0,4,6])
 IP
def IY:Af := .seq (.seq (.ops [mv_ 18 5,po_ 19 (.un .not (.t 18))] [0,4,19])
 (.cond (.t 19)
 (.seq (.ops [po_ 2 (.mov (.c (.slice none 0 0))),po_ 3 (.mov (ci_ 110))] [2,3])
  (.ret))
 (.skip)))
 IR
def Jf:Af := .seq (.ops [mv_ 14 0,so_ 15 (.call 67 [.t 14]),mv_ 13 15,po_ 16 (.ext 0 (.t 13)),po_ 17 (.ext 1 (.t 13)),mv_ 4 16,mv_ 5 17] [0,4,5])
 IY
def N7:Af := .seq (.ops [po_ 2 (.mov (.c (.slice none 0 0))),po_ 3 (.mov (ci_ 0))] [0])
 Jf
def Om:List VR:=[.tmp 2,.tmp 3]
theorem Yh:Tryz.f53.body.bind (trC Tryz.prog Tryz.f53.ntmps)=some (er N7):=by kernel_rfl
theorem X3:trR Tryz.prog Tryz.f53.results.toList=some Om:=by kernel_rfl
def QM:=Ac Kv.eq_1
def QI:=Ac Kw.eq_1
def EO:=Ac Fg.eq_1
def Q7:=Ac J9.eq_1
def Rh:=Ac Lm.eq_1
def Rl:=Ac La.eq_1
def QX:=Ac Ls.eq_1
def Cb:=Ac Lr.eq_1
def BV:=Ac Ky.eq_1
def BN:=Ac Jt.eq_1
def BL:=Ac Je.eq_1
def Qp:=Ac IQ.eq_1
def Gl:=Ac IW.eq_1
def Pn:=Ac IV.eq_1
def EF:=Ac Ji.eq_1
def QB:=Ac Jk.eq_1
def Qj:=Ac IP.eq_1
def PZ:=Ac IR.eq_1
def Gp:=Ac IY.eq_1
def Py:=Ac Jf.eq_1
def Vt:=Ac N7.eq_1
theorem ED {K:TV→Prop} {e:Env} {H:List Ob}:res Om e H K=res [.tmp 2,.tmp 3] e H K:=Aa rfl
def Xj:=Dj 101 Tryz.func53 Yh X3 rfl
def Ir:Af := .seq (.block 1 (.draw 6 [mv_ 28 5,mv_ 29 0,mv_ 30 6,po_ 31 (.idxA 2 (.t 29) (.t 30)),po_ 32 (.fieldA 0 0 (.t 31)),po_ 33 (.load false 1 (.t 32)),mv_ 34 0,mv_ 35 6,po_ 36 (.idxA 2 (.t 34) (.t 35)),po_ 37 (.fieldA 1 1 (.t 36)),po_ 38 (.load false 1 (.t 37)),⟨some 39,.p (.build [.val (.string (str [])),.val (.int .i64 ((0:Nat):Int))] [1,1] [⟨0,.t 33⟩,⟨1,.t 38⟩]),none⟩,⟨some 40,.s (.bslice 2 1 (.agg [.val (.string (str [])),.val (.int .i64 ((0:Nat):Int))]) [⟨0,.t 39⟩]),none⟩,so_ 41 (.app 2 24 59 (.t 28) (.t 40)),mv_ 5 41] [0,1,5,6]))
 (.ops [mv_ 26 6,po_ 27 (.bin 3 .add (.t 26) (ci_ 1)),mv_ 6 27] [0,1,5,6])
def IA:Af := .seq (.seq (.ops [mv_ 22 6,mv_ 23 0,po_ 24 (.lenV (.t 23)),po_ 25 (.bin 3 .lss (.t 22) (.t 24))] [0,1,5,6,25])
 (.cond (.t 25)
 (.skip)
 (.exit 0)))
 Ir
def Ib:Af := .block 0 (.own 5 2 (.loop [0,1,5,6] IA))
def IG:Af := .seq (.ops [mv_ 67 12,mv_ 68 67,⟨some 69,.p (.mov (.t 7)),some ⟨68,true⟩⟩,⟨some 70,.p (.lenV (.t 69)),some ⟨68,true⟩⟩,⟨some 71,.p (.bin 3 .eql (.t 70) (ci_ 0)),some ⟨68,true⟩⟩,po_ 72 (.pick (.t 68) (.t 71) (.c (.bool false))),mv_ 4 72] [4])
 (.ret)
def Hu:Af := .seq (.seq (.ops [mv_ 65 10,po_ 66 (.bin 3 .neq (.t 65) (ci_ 0))] [7,12,66])
 (.cond (.t 66)
 IG
 (.skip)))
 (.seq (.ops [mv_ 73 7,so_ 74 (.call 25 [.t 73]),mv_ 13 74] [12,13])
 (.seq (.ops [mv_ 75 12,mv_ 76 75,⟨some 77,.p (.mov (.t 13)),some ⟨76,true⟩⟩,po_ 78 (.pick (.t 76) (.t 77) (.c (.bool false))),mv_ 4 78] [4])
 (.ret)))
def H9:Af := .seq (.ops [mv_ 63 1,so_ 64 (.call 25 [.t 63]),mv_ 12 64] [7,10,12])
 Hu
def Ho:Af := .seq (.seq (.ops [mv_ 55 11,po_ 56 (.un .not (.t 55)),mv_ 57 56,⟨some 58,.p (.mov (.t 8)),some ⟨57,false⟩⟩,⟨some 59,.s (.call 11 [.t 58]),some ⟨57,false⟩⟩,⟨some 60,.p (.mov (.t 10)),some ⟨57,false⟩⟩,⟨some 61,.p (.bin 3 .neq (.t 59) (.t 60)),some ⟨57,false⟩⟩,po_ 62 (.pick (.t 57) (.c (.bool true)) (.t 61))] [1,7,10,62])
 (.cond (.t 62)
 (.seq (.ops [po_ 4 (.mov (.c (.bool false)))] [4])
  (.ret))
 (.skip)))
 H9
def H8:Af := .seq (.ops [mv_ 52 7,mv_ 53 9,so_ 54 (.call 10 [.t 52,.t 53]),mv_ 11 54] [1,7,8,10,11])
 Ho
def Ii:Af := .seq (.ops [mv_ 48 5,so_ 49 (.call 24 [.t 48]),mv_ 47 49,po_ 50 (.ext 0 (.t 47)),po_ 51 (.ext 1 (.t 47)),mv_ 9 50,mv_ 10 51] [1,7,8,9,10])
 H8
def Gh:Af := .seq (.ops [mv_ 43 0,so_ 44 (.call 23 [.t 43]),mv_ 42 44,po_ 45 (.ext 0 (.t 42)),po_ 46 (.ext 1 (.t 42)),mv_ 7 45,mv_ 8 46] [1,5,7,8])
 Ii
def Gn:Af := .seq (.seq (.ops [po_ 6 (.mov (ci_ 0))] [0,1,5,6])
 Ib)
 Gh
def Gw:Af := .seq (.ops [po_ 5 (.mov (.c (.slice none 0 0)))] [0,1,5])
 Gn
def Gm:Af := .seq (.seq (.ops [mv_ 14 0,po_ 15 (.lenV (.t 14)),po_ 16 (.bin 3 .gtr (.t 15) (ci_ 60)),mv_ 17 16,⟨some 18,.p (.mov (.t 1)),some ⟨17,false⟩⟩,⟨some 19,.p (.lenV (.t 18)),some ⟨17,false⟩⟩,⟨some 20,.p (.bin 3 .gtr (.t 19) (ci_ 6000)),some ⟨17,false⟩⟩,po_ 21 (.pick (.t 17) (.c (.bool true)) (.t 20))] [0,1,21])
 (.cond (.t 21)
 (.seq (.ops [po_ 4 (.mov (.c (.bool true)))] [4])
  (.ret))
 (.skip)))
 Gw
def LW:Af := .seq (.ops [po_ 4 (.mov (.c (.bool false)))] [0,1])
 Gm
def MG:List VR:=[.tmp 4]
theorem VG:Tryz.f6.body.bind (trC Tryz.prog Tryz.f6.ntmps)=some (er LW):=by kernel_rfl
theorem Vp:trR Tryz.prog Tryz.f6.results.toList=some MG:=by kernel_rfl
def OV:=Ac Ir.eq_1
def FM:=Ac IA.eq_1
def OZ:=Ac Ib.eq_1
def OT:=Ac IG.eq_1
def FN:=Ac Hu.eq_1
def FO:=Ac H9.eq_1
def FU:=Ac Ho.eq_1
def FD:=Ac H8.eq_1
def FH:=Ac Ii.eq_1
def NT:=Ac Gh.eq_1
def NL:=Ac Gn.eq_1
def NR:=Ac Gw.eq_1
def NM:=Ac Gm.eq_1
def Tz:=Ac LW.eq_1
theorem Dh {K:TV→Prop} {e:Env} {H:List Ob}:res MG e H K=res [.tmp 4] e H K:=Aa rfl
def U2:=Dj 79 Tryz.func6 VG Vp rfl
def ND:Af := .seq (.block 1 (.seq (.draw 18 [mv_ 46 4,mv_ 47 9,po_ 48 (.idxA 2 (.t 46) (.t 47)),po_ 49 (.fieldA 0 0 (.t 48)),po_ 50 (.load false 1 (.t 49)),mv_ 51 7,mv_ 52 9,po_ 53 (.idxA 2 (.t 51) (.t 52)),po_ 54 (.fieldA 0 0 (.t 53)),po_ 55 (.load false 1 (.t 54)),po_ 56 (.bin 9 .neq (.t 50) (.t 55)),mv_ 57 56,⟨some 58,.p (.mov (.t 4)),some ⟨57,false⟩⟩,⟨some 59,.p (.mov (.t 9)),some ⟨57,false⟩⟩,⟨some 60,.p (.idxA 2 (.t 58) (.t 59)),some ⟨57,false⟩⟩,⟨some 61,.p (.fieldA 1 1 (.t 60)),some ⟨57,false⟩⟩,⟨some 62,.p (.load false 1 (.t 61)),some ⟨57,false⟩⟩,⟨some 63,.p (.mov (.t 7)),some ⟨57,false⟩⟩,⟨some 64,.p (.mov (.t 9)),some ⟨57,false⟩⟩,⟨some 65,.p (.idxA 2 (.t 63) (.t 64)),some ⟨57,false⟩⟩,⟨some 66,.p (.fieldA 1 1 (.t 65)),some ⟨57,false⟩⟩,⟨some 67,.p (.load false 1 (.t 66)),some ⟨57,false⟩⟩,⟨some 68,.p (.bin 3 .neq (.t 62) (.t 67)),some ⟨57,false⟩⟩,po_ 69 (.pick (.t 57) (.c (.bool true)) (.t 68))] [4,7,9,69])
 (.cond (.t 69)
 (.seq (.ops [po_ 2 (.mov (.c (.bool false)))] [2])
  (.ret))
 (.skip))))
 (.ops [mv_ 44 9,po_ 45 (.bin 3 .add (.t 44) (ci_ 1)),mv_ 9 45] [4,7,9])
def MZ:Af := .seq (.seq (.ops [mv_ 40 9,mv_ 41 4,po_ 42 (.lenV (.t 41)),po_ 43 (.bin 3 .lss (.t 40) (.t 42))] [4,7,9,43])
 (.cond (.t 43)
 (.skip)
 (.exit 0)))
 ND
def Nc:Af := .block 0 (.loop [4,7,9] MZ)
def NC:Af := .seq (.ops [po_ 2 (.mov (.c (.bool true)))] [2])
 (.ret)
def MW:Af := .seq (.seq (.ops [po_ 9 (.mov (ci_ 0))] [4,7,9])
 Nc)
 NC
def Nl:Af := .seq (.seq (.ops [mv_ 25 6,po_ 26 (.un .not (.t 25)),mv_ 27 26,⟨some 28,.p (.mov (.t 5)),some ⟨27,false⟩⟩,⟨some 29,.s (.call 11 [.t 28]),some ⟨27,false⟩⟩,⟨some 30,.p (.mov (.t 8)),some ⟨27,false⟩⟩,⟨some 31,.p (.bin 3 .neq (.t 29) (.t 30)),some ⟨27,false⟩⟩,po_ 32 (.pick (.t 27) (.c (.bool true)) (.t 31)),mv_ 33 32,⟨some 34,.p (.mov (.t 4)),some ⟨33,false⟩⟩,⟨some 35,.p (.lenV (.t 34)),some ⟨33,false⟩⟩,⟨some 36,.p (.mov (.t 7)),some ⟨33,false⟩⟩,⟨some 37,.p (.lenV (.t 36)),some ⟨33,false⟩⟩,⟨some 38,.p (.bin 3 .neq (.t 35) (.t 37)),some ⟨33,false⟩⟩,po_ 39 (.pick (.t 33) (.c (.bool true)) (.t 38))] [4,7,39])
 (.cond (.t 39)
 (.seq (.ops [po_ 2 (.mov (.c (.bool false)))] [2])
  (.ret))
 (.skip)))
 MW
def Nh:Af := .seq (.ops [mv_ 21 0,so_ 22 (.call 53 [.t 21]),mv_ 20 22,po_ 23 (.ext 0 (.t 20)),po_ 24 (.ext 1 (.t 20)),mv_ 7 23,mv_ 8 24] [4,5,6,7,8])
 Nl
def Nj:Af := .seq (.ops [mv_ 17 3,mv_ 18 0,so_ 19 (.call 19 [.t 17,.t 18]),mv_ 6 19] [0,4,5,6])
 Nh
def Ny:Af := .seq (.ops [mv_ 13 3,so_ 14 (.call 52 [.t 13]),mv_ 12 14,po_ 15 (.ext 0 (.t 12)),po_ 16 (.ext 1 (.t 12)),mv_ 4 15,mv_ 5 16] [0,3,4,5])
 Nj
def Md:Af := .seq (.ops [mv_ 10 0,so_ 11 (.call 17 [.t 10]),mv_ 3 11] [0,3])
 Ny
def SI:Af := .seq (.ops [po_ 2 (.mov (.c (.bool false)))] [0])
 Md
def Tc:List VR:=[.tmp 2]
theorem Aaw:Tryz.f25.body.bind (trC Tryz.prog Tryz.f25.ntmps)=some (er SI):=by kernel_rfl
theorem AaD:trR Tryz.prog Tryz.f25.results.toList=some Tc:=by kernel_rfl
def U9:=Ac ND.eq_1
def Fh:=Ac MZ.eq_1
def JY:=Ac Nc.eq_1
def Ko:=Ac NC.eq_1
def Lj:=Ac MW.eq_1
def KQ:=Ac Nl.eq_1
def KH:=Ac Nh.eq_1
def J4:=Ac Nj.eq_1
def UU:=Ac Ny.eq_1
def TI:=Ac Md.eq_1
def XR:=Ac SI.eq_1
theorem Oi {K:TV→Prop} {e:Env} {H:List Ob}:res Tc e H K=res [.tmp 2] e H K:=Aa rfl
def Zc:=Dj 70 Tryz.func25 Aaw AaD rfl
def CZ:Af := .seq (.ops [po_ 2 (.mov (.c (.slice none 0 0)))] [0])
 (.seq (.ops [mv_ 3 0,mv_ 4 0,po_ 5 (.lenV (.t 4)),mv_ 6 0,po_ 7 (.lenV (.t 6)),po_ 8 (.gen (.sl3 2) [.t 3,.c (.int .i64 ((0:Nat):Int)),.t 5,.t 7]),mv_ 2 8] [2])
 (.ret))
def C9:List VR:=[.tmp 2]
theorem F7:Tryz.f85.body.bind (trC Tryz.prog Tryz.f85.ntmps)=some (er CZ):=by kernel_rfl
theorem F8:trR Tryz.prog Tryz.f85.results.toList=some C9:=by kernel_rfl
def Fq:=Ac CZ.eq_1
theorem Fv {K:TV→Prop} {e:Env} {H:List Ob}:res C9 e H K=res [.tmp 2] e H K:=Aa rfl
def F5:=(And.intro @Fq @Fv)
def FT:=Dj 9 Tryz.func85 F7 F8 rfl
end
section
open Go.RowKit
variable [AP]
abbrev StD:=List UInt8×Int
def stT (s:StD):TV := .agg [ts s.1,i64 s.2]
theorem Ayw (s:StD):BC Tryz.prog 49 [stT s] (fun r=>r=ts s.1):=by
 refine Am.toPureV (UT (by simp) ?_)
 obtain ⟨n,e⟩:=s
 simp -dsimp (disch:=first | assumption | omega | (simp only [Ae];try omega)) only [↓Ai,Ad,Ag,Ah,eq_self,Nat.reduceEqDiff,↓reduceIte,stT,↓Vz]
def ES (l:List StD):List (List UInt8):=l.map (·.1)
theorem Awt (l:List StD) (hl:l.length≤1000000):BC Tryz.prog 48 [.sl 2 (l.map stT),i64 ((500:Nat):Int),.val (.func (.func 49) #[] #[])] (fun r=>r=tb (decide ((ES l).Nodup∧l.length≤500))):=by
 refine Am.toPureV (Lu (by simp) ?_)
 generalize hB:decide ((ES l).Nodup∧l.length≤500)=B
 simp -dsimp (disch:=first | assumption | omega | (simp only [Ae];try omega)) only [↓Ai,Ad,Ag,Ah,eq_self,Nat.reduceEqDiff,↓reduceIte,Nat.reduceAdd,reduceCtorEq,↓JE,↓G8,↓GI,↓GK]
 refine Fp (fun q e H=>∃ (i:Nat) (es:List (List UInt8×TV)),q=l.length - i∧i≤l.length∧ApB es ((ES l).take i)∧H[0]?=some (.mpo .str es)∧e=[(0,.sl 2 (l.map stT)),(1,i64 ((500:Nat):Int)),(2,.val (.func (.func 49) #[] #[])),(7,.mp 0 0),(11,.sl 2 (l.map stT)),(12,i64 (l.length:Int)),(13,i64 (i:Int))]) l.length ?_ ?_
 ·exact ⟨0,[],rfl,Nat.zero_le _,ApB.nil,rfl,by simp [forget,get]⟩
 rintro q e H ⟨i,es,rfl,hi,hS,hH,rfl⟩
 have hHl:0<H.length:=(List.getElem?_eq_some_iff.1 hH).1
 have hnl:(ES l).length=l.length:=by simp [ES]
 by_cases hil:i<l.length
 case neg =>
  have hi2:i=l.length:=by omega
  rw [List.take_of_length_le (by omega)] at hS
  have h1:=hS.nd
  have h2:=hS.le
  rw [hnl] at h1 h2
  by_cases he:es.length=l.length
  ·by_cases h5:l.length≤500
   ·simp -dsimp (disch:=first | assumption | omega | (simp only [Ae];try omega)) only [↓Ai,Ad,Ag,Ah,eq_self,Nat.reduceEqDiff,↓reduceIte,reduceCtorEq,hH,he,↓Bl,↓Bh,↓BP,↓CG]
    rw [←hB,decide_eq_true (show (ES l).Nodup∧l.length≤500 from ⟨h1.1 he,h5⟩),decide_eq_true h5]
   ·simp -dsimp (disch:=first | assumption | omega | (simp only [Ae];try omega)) only [↓Ai,Ad,Ag,Ah,eq_self,Nat.reduceEqDiff,↓reduceIte,reduceCtorEq,hH,he,h5,↓Bl,↓Bh,↓BP,↓CG]
    rw [←hB,decide_eq_false fun h=>h5 h.2]
  ·simp -dsimp (disch:=first | assumption | omega | (simp only [Ae];try omega)) only [↓Ai,Ad,Ag,Ah,eq_self,Nat.reduceEqDiff,↓reduceIte,reduceCtorEq,hH,he,↓Bl,↓Bh,↓BP,↓CG]
   rw [←hB,decide_eq_false fun h=>he (h1.2 h.1)]
 obtain ⟨⟨n,x⟩,hr⟩:∃ r,l[i]?=some r:=⟨_,List.getElem?_eq_getElem hil⟩
 have hg:(l.map stT)[i]?=some (.agg [ts n,i64 x]):=by rw [List.getElem?_map,hr]; rfl
 have hcl:=hS.cnt n
 have hadd:=hS.add n
 have hts:(ES l).take (i+1)=(ES l).take i++[n]:=by rw [List.take_add_one]; unfold ES; rw [List.getElem?_map,hr]; rfl
 rw [←hts] at hadd
 have hcount:((ES l).take i).count n≤i:=by have:=List.count_le_length (a:=n) (l:=(ES l).take i); rw [List.length_take] at this; omega
 generalize ((ES l).take i).count n=c at *
 simp -dsimp (disch:=first | assumption | omega | (simp only [Ae];try omega)) only [↓Ai,Ad,Ag,Ah,eq_self,Nat.reduceEqDiff,↓reduceIte,Nat.reduceAdd,reduceCtorEq,hg,↓Bl,↓Bh,↓GU]
 refine ⟨by kernel_rfl,Abg ((Ayw (n,x)).calls rfl fun r hr => ?_)⟩
 subst hr
 have hA:∀ T:List Ob,(H++T)[0]?=some (.mpo .str es):=fun T=>by rw [List.getElem?_append_left hHl]; exact hH
 simp -dsimp (disch:=first | assumption | omega | (simp only [Ae];try omega)) only [↓Ai,Ad,Ag,Ah,eq_self,Nat.reduceEqDiff,↓reduceIte,reduceCtorEq,hA,hcl]
 exact AB (l.length - (i+1)) (by omega) (by simp) ⟨i+1,_,rfl,by omega,hadd,by rw [Arr hHl],by simp [forget,get]⟩
end
section
open Go.RowKit
variable [AP]
def wOk:List UInt8:=[111,107]
def wNg:List UInt8:=[110,103]
def Aan (s:StD):List (List UInt8):=if s.2=0 then [wOk,s.1] else [wNg,s.1,Lib.itoa s.2]
def AaR (l:List StD):List UInt8:=Ab1 (l.map Aan)++Rj
def AeQ (s:StD):Prop:=Aor s.1∧0≤s.2∧s.2≤999
def Nb (l:List StD):Prop:=((ES l).Nodup∧l.length≤500)∧∀ s∈l,AeQ s
def d3 (n:Nat):List UInt8:=if n<10 then [UInt8.ofNat (48+n)] else if n<100 then [UInt8.ofNat (48+n / 10),UInt8.ofNat (48+n % 10)] else [UInt8.ofNat (48+n / 100),UInt8.ofNat (48+n / 10 % 10),UInt8.ofNat (48+n % 10)]
theorem AoL {n:Nat} (h:n<1000):Lib.decDigits n=d3 n:=by
 unfold d3
 by_cases h1:n<10
 ·rw [if_pos h1,Lib.decDigits_one h1]
 rw [if_neg h1,Lib.decDigits.eq_1 n,dif_neg h1]
 by_cases h2:n<100
 ·rw [if_pos h2,Lib.decDigits_one (by omega)]; rfl
 rw [if_neg h2,Lib.decDigits.eq_1 (n / 10),dif_neg (by omega),Lib.decDigits_one (by omega),show n / 10 / 10=n / 100 by omega]; rfl
theorem Aga {n:Nat} (h:n<1000):Lib.itoa (n:Int)=d3 n:=by rw [Lib.itoa_nonneg,AoL h]
def MP (s:List UInt8):Int:=match Lib.atoiAll s with
 | .ok v=>v
 | .«syntax» => 0
 | .range=>Lib.atoiSat s
def AbY (s:List UInt8):Int:=(s.take 4).foldl (fun n c=>n*10+(c.toNat:Int) - 48) 0
theorem Aqd:∀ n,n<1000→Lib.atoiAll (d3 n) = .ok (n:Int):=by decide +kernel
theorem Atc:∀ n,n<1000→AbY (d3 n)=(n:Int):=by decide +kernel
theorem AoG:∀ n,n<1000→(d3 n).all (fun c=>c != 32)=true∧(d3 n).length≤3:=by decide +kernel
def Alj (f:List UInt8→Int):Prop:=∀ n:Nat,n<1000→f (d3 n)=(n:Int)
theorem Adc:Alj MP:=fun n h=>by unfold MP; rw [Aqd n h]
theorem Ago:Alj AbY:=Atc
theorem AdI {s:StD} (h:AeQ s):∃ n:Nat,n<1000∧s.2=(n:Int):=⟨s.2.toNat,by have:=h.2; omega,by have:=h.2; omega⟩
theorem W9 {a b c:List UInt8}:Iu [a,b,c]=a++32::(b++32::c)++[10]:=by
 unfold Iu
 rw [QV,QV,X4]
theorem Ad9 {s:StD} (h:AeQ s):(Aan s≠[]∧∀ w∈Aan s,Amk w)∧(Iu (Aan s)).length≤1000:=by
 obtain ⟨n,hn,e⟩:=AdI h
 have hp:=Afb h.1
 have hw:Amk wOk∧Amk wNg:=⟨by intro c hc; revert c; decide,by intro c hc; revert c; decide⟩
 unfold Aan
 split
 ·refine ⟨⟨by simp,fun w hw' => ?_⟩,by rw [Aba]; simp [wOk]; omega⟩
  simp only [List.mem_cons,List.mem_nil_iff,or_false] at hw'
  rcases hw' with rfl | rfl
  ·exact hw.1
  ·exact hp.2
 ·have hd:=AoG n hn
  rw [e,Aga hn]
  refine ⟨⟨by simp,fun w hw' => ?_⟩,by rw [W9]; simp [wNg]; omega⟩
  simp only [List.mem_cons,List.mem_nil_iff,or_false] at hw'
  rcases hw' with rfl | rfl | rfl
  ·exact hw.2
  ·exact hp.2
  ·intro c hc; simpa using List.all_eq_true.1 hd.1 c hc
theorem AeR {l:List StD} (h:Nb l):AV ((l.map Aan).map Iu++[[]]) (AaR l) :=
 (AkG fun ws hw=>by obtain ⟨s,hs,rfl⟩:=List.mem_map.1 hw; exact (Ad9 (h.2 s hs)).2).app AhZ
def LD (f:List UInt8→Int) (o:List StD) (w:List (List UInt8)):List StD:=match w with
 | [a,b]=>if a=wOk then o++[(b,0)] else o
 | [a,b,c]=>if a=wNg then o++[(b,f c)] else o
 | _=>o
def XI (f:List UInt8→Int) (ls:List (List UInt8)):List StD:=(ls.map KY).foldl (LD f) []
theorem Ahh {f:List UInt8→Int} (hf:Alj f):∀ {l o:List StD},(∀ s∈l,AeQ s)→(l.map Aan).foldl (LD f) o=o++l
 | [],o,_=>by simp
 | s::l,o,h=>by
  obtain ⟨n,hn,e⟩:=AdI (h s (by simp))
  have hs:LD f o (Aan s)=o++[s]:=by
   obtain ⟨nm,x⟩:=s
   simp only at e
   subst e
   unfold Aan LD
   by_cases h0:(n:Int)=0
   ·simp [h0]
   ·simp only [h0,if_false,Aga hn,if_true,hf n hn]
  rw [List.map_cons,List.foldl_cons,Ahh hf (fun x hx=>h x (by simp [hx])),hs]
  simp
theorem Vk {f:List UInt8→Int} (hf:Alj f) {ls:List (List UInt8)} {b:List UInt8} {l:List StD} (hl:AV ls b) (h:Nb l) (e:AaR l=b):XI f ls=l:=by
 subst e
 rw [UW hl (AeR h)]
 unfold XI
 rw [List.map_append,Agi (fun ws hw=>by obtain ⟨s,hs,rfl⟩:=List.mem_map.1 hw; exact (Ad9 (h.2 s hs)).1),List.foldl_append,Ahh hf h.2]
 rfl
theorem Ahu {b:List UInt8} (hl:∀ ls,¬ AV ls b):∀ l,Nb l→AaR l≠b:=fun l h e=>hl _ (e▸AeR h)
end
section
open Go.RowKit
variable [AP] [Fa] [Aq]
def AdN (l:List StD):Prop:=l.length≤20000∧∀ s∈l,s.1.length≤2000000 ∧ -9223372036854775808≤s.2∧s.2≤9223372036854775807
def Axe (l:List StD) (r:TV):Prop:=(Nb l→r = .tup [slB (AaR l),.val .nilIface])∧(¬ Nb l→r = .tup [UY,eno 111])
def Agn (l:List StD) (i:Nat):Prop:=((ES l).Nodup∧l.length≤500)∧∀ s∈l.take i,AeQ s
theorem AiU {l:List StD} {i:Nat} {s:StD} (h:l[i]?=some s):Agn l (i+1)↔Agn l i∧AeQ s:=by
 unfold Agn
 rw [List.take_add_one,h]
 constructor
 ·rintro ⟨h1,h2⟩
  exact ⟨⟨h1,fun x hx=>h2 x (by simp [hx])⟩,h2 s (by simp)⟩
 ·rintro ⟨⟨h1,h2⟩,h3⟩
  refine ⟨h1,fun x hx => ?_⟩
  rcases List.mem_append.1 hx with hx | hx
  ·exact h2 x hx
  ·simp at hx; subst hx; exact h3
theorem Ag0 {l:List StD}:Agn l l.length↔Nb l:=by unfold Agn Nb; rw [List.take_length]
theorem Z7 (l:List StD) (hf:AdN l):Ou Tryz.prog 23 [.sl 2 (l.map stT)] (Axe l):=by
 refine Am.toFreshV (WQ (by simp) ?_)
 obtain ⟨f1,f2⟩:=hf
 simp -dsimp (disch:=first | assumption | omega | (simp only [Ae];try omega)) only [↓Ai,Ad,Ag,Ah,eq_self,↓reduceIte,reduceCtorEq,↓VM,↓Qs,↓Ql]
 refine (Awt l (by omega)).calls (by rfl) fun r hr => ?_
 subst hr
 simp -dsimp (disch:=first | assumption | omega | (simp only [Ae];try omega)) only [↓Ai,Ad,Ag,Ah,eq_self,Nat.reduceEqDiff,↓reduceIte]
 refine AuC (z:=0) (l:=[]) (ok:=True) (n:=0) (TSt.new rfl (by omega)) fun H1 m1 m2 m3 => ?_
 have hH1:H1.length=1:=by simpa using m3
 simp -dsimp (disch:=first | assumption | omega | (simp only [Ae];try omega)) only [↓Ai,Ad,Ag,Ah,eq_self,Nat.reduceEqDiff,↓reduceIte,reduceCtorEq,↓PN,↓QJ]
 refine Fp (fun q e G=>∃ (i:Nat),q=l.length - i∧i≤l.length∧TSt 0 0 G (Ab1 ((l.take i).map Aan)) (Agn l i) (i*3000015)∧1≤G.length∧e=[(4,.op 0 0 []),(13,.sl 2 (l.map stT)),(14,i64 (l.length:Int)),(15,i64 (i:Int))]) l.length ?_ ?_
 ·refine ⟨0,rfl,Nat.zero_le _,?_,m1.lt,by simp [forget,get]⟩
  refine (m1.iff ?_).le (Nat.zero_le _)
  rw [decide_eq_true_eq]
  simp [Agn]
 rintro q e G ⟨i,rfl,hi,hT,hGn,rfl⟩
 by_cases hil:i<l.length
 case neg =>
  have hi2:i=l.length:=by omega
  subst hi2
  rw [List.take_length] at hT
  simp -dsimp (disch:=first | assumption | omega | (simp only [Ae];try omega)) only [↓Ai,Ad,Ag,Ah,eq_self,Nat.reduceEqDiff,↓reduceIte,↓IE,↓H6,↓Ri]
  refine AuP hT (by omega) fun H2 m1 m2 m3 => ?_
  simp -dsimp (disch:=first | assumption | omega | (simp only [Ae];try omega)) only [↓Ai,Ad,Ag,Ah,eq_self,Nat.reduceEqDiff,↓reduceIte]
  refine Aw4 m1 (by simp [Rj]) fun x y hd' => ?_
  rcases hd' with ⟨h1,⟨j,v,rfl,hj⟩,rfl⟩ | ⟨h1,rfl,rfl⟩
  ·have hkt:((AaR l).map by8).take (AaR l).length=(AaR l).map by8:=List.take_of_length_le (by simp)
   have e:Ab1 (l.map Aan)++Rj=AaR l:=rfl
   rw [e] at hj ⊢
   simp -dsimp (disch:=first | assumption | omega | (simp only [Ae];try omega)) only [↓Ai,Ad,Ag,Ah,eq_self,Nat.reduceEqDiff,↓reduceIte,hj,hkt,↓LP]
   exact ⟨fun _=>rfl,fun h=>absurd (Ag0.1 h1) h⟩
  ·simp -dsimp (disch:=first | assumption | omega | (simp only [Ae];try omega)) only [↓Ai,Ad,Ag,Ah,eq_self,Nat.reduceEqDiff,↓reduceIte,↓LP]
   exact ⟨fun h=>absurd (Ag0.2 h) h1,fun _=>rfl⟩
 obtain ⟨⟨nm,x⟩,hr⟩:∃ r,l[i]?=some r:=⟨_,List.getElem?_eq_getElem hil⟩
 have hrm:=f2 _ (List.mem_of_getElem? hr)
 simp only at hrm
 obtain ⟨hnl,hx1,hx2⟩:=hrm
 have hg:(l.map stT)[i]?=some (.agg [ts nm,i64 x]):=by rw [List.getElem?_map,hr]; rfl
 have hra:=AiU hr
 have hsn:l.take (i+1)=l.take i++[(nm,x)]:=by rw [List.take_add_one,hr]; rfl
 simp -dsimp (disch:=first | assumption | omega | (simp only [Ae];try omega)) only [↓Ai,Ad,Ag,Ah,eq_self,Nat.reduceEqDiff,↓reduceIte,Nat.reduceAdd,hg,↓IE,↓H6,↓Q3,↓QT]
 refine (Ard nm (by omega)).calls rfl fun r hr' => ?_
 subst hr'
 have hTg:=hT.grow [Ob.obj 0 (.agg [ts nm,i64 x])]
 have hGl:0<G.length:=hT.lt
 have hGk:(G++[Ob.obj 0 (.agg [ts nm,i64 x])])[G.length]?=some (.obj 0 (.agg [ts nm,i64 x])):=by simp
 have h4:nmB nm=false∨(nmB nm=true∧x<0)∨(nmB nm=true∧0≤x):=by
  cases nmB nm
  ·exact .inl rfl
  ·rcases Int.lt_or_le x 0 with h | h
   ·exact .inr (.inl ⟨rfl,h⟩)
   ·exact .inr (.inr ⟨rfl,h⟩)
 rcases h4 with hnb | ⟨hnb,hx0⟩ | ⟨hnb,hx0⟩
 case' inl =>
  rw [hnb]
  have hb:Agn l i∧false=true↔Agn l (i+1):=by
   rw [hra]; unfold AeQ; rw [←Y6,hnb]; simp
  simp -dsimp (disch:=first | assumption | omega | (simp only [Ae];try omega)) only [↓Ai,Ad,Ag,Ah,eq_self,Nat.reduceEqDiff,↓reduceIte]
 case' inr.inl =>
  rw [hnb]
  have hb:Agn l i∧false=true↔Agn l (i+1):=by
   rw [hra]; unfold AeQ; rw [←Y6,hnb]; simp; omega
  simp -dsimp (disch:=first | assumption | omega | (simp only [Ae];try omega)) only [↓Ai,Ad,Ag,Ah,eq_self,Nat.reduceEqDiff,↓reduceIte,Nat.reduceAdd,hGk]
 case' inr.inr =>
  rw [hnb]
  have hb:Agn l i∧decide (x≤((999:Nat):Int))=true↔Agn l (i+1):=by
   rw [hra]; unfold AeQ; rw [←Y6,hnb,decide_eq_true_eq]; simp [hx0]
  simp -dsimp (disch:=first | assumption | omega | (simp only [Ae];try omega)) only [↓Ai,Ad,Ag,Ah,eq_self,Nat.reduceEqDiff,↓reduceIte,Nat.reduceAdd,hGk]
 all_goals
  refine Abg (AuC hTg fun H2 m1 m2 m3 => ?_)
  have m1':=m1.iff hb
  have m3':H2.length=G.length+1:=by simpa using m3
  have hK:H2[G.length]?=some (.obj 0 (.agg [ts nm,i64 x])):=(m2 _ (by omega)).trans hGk
  have fin:∀ H3,TSt 0 0 H3 (Ab1 ((l.take i).map Aan)++BG (Iu (Aan (nm,x)))) (Agn l (i+1)) (i*3000015+3000015)→1≤H3.length→TSt 0 0 H3 (Ab1 ((l.take (i+1)).map Aan)) (Agn l (i+1)) ((i+1)*3000015):=by
   intro H3 n1 _
   rw [hsn,List.map_append,Ac5,List.map_cons,List.map_nil,Ad8]
   exact n1.le (by omega)
  by_cases he:x=0
  ·first
    | (exfalso; omega)
    |
     have hst:Aan (nm,x)=[wOk,nm]:=by unfold Aan; rw [if_pos he]
     simp -dsimp (disch:=first | assumption | omega | (simp only [Ae];try omega)) only [↓Ai,Ad,Ag,Ah,eq_self,Nat.reduceEqDiff,↓reduceIte,Nat.reduceAdd,Nat.reduceLeDiff,hK,he,↓IC,↓Ij]
     have hcat:(((List.replicate 2 (TV.val (Value.string (str [])))).set 0 (TV.val (Value.string (str [111,107])))).set 1 (ts nm))=([wOk,nm]:List (List UInt8)).map ts:=rfl
     rw [hcat]
     refine Abg (AxS (ws:=[wOk,nm]) (m1'.grow _) (by simp) (by simp) (by simp) (by rw [QV,X4]; simp [wOk]; omega) (by omega) fun H3 n1 n2 n3 => ?_)
     simp -dsimp (disch:=first | assumption | omega | (simp only [Ae];try omega)) only [↓Ai,Ad,Ag,Ah,eq_self,Nat.reduceEqDiff,↓reduceIte]
     rw [List.length_append,List.length_singleton] at n3
     rw [←hst] at n1
     exact AB (l.length - (i+1)) (by omega) (by omega) ⟨i+1,rfl,by omega,fin _ n1 (by omega),by omega,by simp [forget,get]⟩
  ·have hst:Aan (nm,x)=[wNg,nm,Lib.itoa x]:=by unfold Aan; rw [if_neg he]
   have hil2:=Lib.itoa_length_le x hx1 hx2
   simp -dsimp (disch:=first | assumption | omega | (simp only [Ae];try omega)) only [↓Ai,Ad,Ag,Ah,eq_self,Nat.reduceEqDiff,↓reduceIte,Nat.reduceAdd,hK,↓IC,↓Ij,↓QR]
   refine ⟨_,(Axl x hx1 hx2).calls rfl fun r hr=>⟨hr,rfl⟩,?_⟩
   generalize Lib.itoa x=y at *
   simp -dsimp (disch:=first | assumption | omega | (simp only [Ae];try omega)) only [↓Ai,Ad,Ag,Ah,eq_self,Nat.reduceEqDiff,↓reduceIte,Nat.reduceLeDiff]
   have hcat:((((List.replicate 3 (TV.val (Value.string (str [])))).set 0 (TV.val (Value.string (str [110,103])))).set 1 (ts nm)).set 2 (ts y))=([wNg,nm,y]:List (List UInt8)).map ts:=rfl
   rw [hcat]
   refine Abg (AxS (ws:=[wNg,nm,y]) (m1'.grow _) (by simp) (by simp) (by simp) (by rw [QV,QV,X4]; simp [wNg]; omega) (by omega) fun H3 n1 n2 n3 => ?_)
   simp -dsimp (disch:=first | assumption | omega | (simp only [Ae];try omega)) only [↓Ai,Ad,Ag,Ah,eq_self,Nat.reduceEqDiff,↓reduceIte]
   rw [List.length_append,List.length_singleton] at n3
   rw [←hst] at n1
   exact AB (l.length - (i+1)) (by omega) (by omega) ⟨i+1,rfl,by omega,fin _ n1 (by omega),by omega,by simp [forget,get]⟩
end
section
open Go.RowKit
variable [AP]
theorem AjC {b:UInt8}:(∀ y:TV,y∈[TV.val (Value.int IntKind.u8 (b.toNat:Int))]→AfU y)=True:=by
 refine eq_true ?_
 intro y hy
 obtain rfl:=List.mem_singleton.1 hy
 exact Ac4 b
theorem AnT {a b:TV}:(List.replicate 1 a).set 0 b=[b]:=by simp
theorem AjO (n:Nat):(Lib.decDigits n).length≤n+1:=by
 induction n using Nat.strongRecOn with
 | _ n ih =>
  by_cases h:n<10
  ·rw [Lib.decDigits_one h]; simp
  ·rw [Lib.decDigits.eq_1 n,dif_neg h,List.length_append]
   have:=ih (n / 10) (by omega)
   simp only [List.length_cons,List.length_nil]; omega
theorem Ah8 (n:Nat) (hn:n≤1099511627776):BC Tryz.prog 51 [i64 (n:Int)] (fun r=>r=ts (Lib.decDigits n)):=by
 refine Am.toPureV (AbH (by simp) ?_)
 by_cases h0:n=0
 ·subst h0
  simp -dsimp (disch:=first | assumption | omega) only [↓Ai,Ad,Ag,Ah,eq_self,↓reduceIte,reduceCtorEq,↓JX]
  rw [Lib.decDigits_one (by omega)]
  rfl
 simp -dsimp (disch:=first | assumption | omega) only [↓Ai,Ad,Ag,Ah,eq_self,↓reduceIte,reduceCtorEq,↓JX]
 have dl:=AjO n
 refine Fp (fun q e H=>∃ (m:Nat) (s:List UInt8),q=m∧m≤n∧((m=0∧s=Lib.decDigits n)∨(0<m∧Lib.decDigits n=Lib.decDigits m++s))∧e=[(0,i64 (m:Int)),(3,ts s)]∧H=[]) n ?_ ?_
 ·exact ⟨n,[],rfl,Nat.le_refl _,.inr ⟨by omega,by simp⟩,rfl,rfl⟩
 ·rintro q e H ⟨m,s,rfl,hmn,hm,rfl,rfl⟩
  have hsl:s.length≤n+1:=by
   rcases hm with ⟨_,rfl⟩ | ⟨_,h⟩
   ·exact dl
   ·rw [h,List.length_append] at dl; omega
  by_cases hpos:0<q
  ·have h48:(48+q % 10)<256:=by omega
   have hsl2:([UInt8.ofNat (48+q % 10)]:List UInt8).length+s.length≤9223372036854775807:=by simp only [List.length_cons,List.length_nil]; omega
   simp -dsimp (disch:=first | assumption | omega) only [↓Ai,Ad,Ag,Ah,eq_self,Nat.reduceEqDiff,↓reduceIte,reduceCtorEq,Nat.reduceLeDiff,↓JX,AnT,AdG,AjC,Aei]
   refine Apb (q / 10) 0 (by omega) (by omega) rfl rfl ⟨q / 10,[UInt8.ofNat (48+q % 10)]++s,rfl,by omega,?_,rfl,rfl⟩
   have hd:Lib.decDigits n=Lib.decDigits q++s:=by
    rcases hm with ⟨h,_⟩ | ⟨_,h⟩
    ·omega
    ·exact h
   by_cases h10:q<10
   ·refine .inl ⟨by omega,?_⟩
    rw [hd,Lib.decDigits_one h10,Nat.mod_eq_of_lt h10]
   ·refine .inr ⟨by omega,?_⟩
    rw [hd,Lib.decDigits,dif_neg h10,List.append_assoc]
  ·simp -dsimp (disch:=first | assumption | omega) only [↓Ai,Ad,Ag,Ah,eq_self,Nat.reduceEqDiff,↓reduceIte,reduceCtorEq,↓JX]
   rcases hm with ⟨_,rfl⟩ | ⟨h,_⟩
   ·rfl
   ·omega
end
section
open Go.RowKit
variable [AP] [Fa] [Aq]
def AoR (l:List StD) (r:TV):Prop:=(Nb l→r = .tup [slB (AaR l),i64 ((0:Nat):Int)])∧(¬ Nb l→r = .tup [UY,i64 ((111:Nat):Int)])
theorem AgY {l:List StD} {k:Nat} {s:StD} (h:l[k]?=some s):(ES l)[k]?=some s.1:=by unfold ES; rw [List.getElem?_map,h]; rfl
theorem Aik {l:List StD} {i:Nat} {nm:List UInt8} {x:Int} (hi:l[i]?=some (nm,x)) (hl:l.length≤20000) {Q:VEx→Env→List Ob→Prop} {y:TV} {H:List Ob} {E:Env} (hE:forget [0,4,5,7] E=[(0,.sl 2 (l.map stT)),(4,y),(5,i64 (i:Int)),(7,i64 ((0:Nat):Int))])
  (hyes:(∀ k,k<i→(ES l)[k]?≠some nm)→∀ n m,Q (.exit 2) [(0,.sl 2 (l.map stT)),(4,y),(5,i64 (i:Int)),(7,n),(44,m)] H)
  (hno:(∃ k,k<i∧(ES l)[k]?=some nm)→Q .ret [(2,UY),(3,i64 ((111:Nat):Int))] H) :
  vwp Tryz.prog (.loop [0,4,5,7] EX) Q E H:=by
 have hil:=(List.getElem?_eq_some_iff.1 hi).1
 have hg:(l.map stT)[i]?=some (.agg [ts nm,i64 x]):=by rw [List.getElem?_map,hi]; rfl
 refine Fp (fun q e G=>∃ k:Nat,q=i - k∧k≤i∧(∀ j,j<k→(ES l)[j]?≠some nm)∧G=H∧e=[(0,.sl 2 (l.map stT)),(4,y),(5,i64 (i:Int)),(7,i64 (k:Int))]) i ⟨0,rfl,Nat.zero_le _,fun j h=>by omega,rfl,hE⟩ ?_
 rintro q e G ⟨k,rfl,hk,hn,rfl,rfl⟩
 by_cases hki:k<i
 case neg =>
  have hk2:k=i:=by omega
  subst hk2
  simp -dsimp (disch:=first | assumption | omega | (simp only [Ae];try omega)) only [↓Ai,Ad,Ag,Ah,eq_self,Nat.reduceEqDiff,↓reduceIte,reduceCtorEq,↓EG]
  exact hyes hn _ _
 obtain ⟨⟨kn,kx⟩,hq⟩:∃ r,l[k]?=some r:=⟨_,List.getElem?_eq_getElem (by omega)⟩
 have hgk:(l.map stT)[k]?=some (.agg [ts kn,i64 kx]):=by rw [List.getElem?_map,hq]; rfl
 have hnk:=AgY hq
 by_cases he:kn=nm
 ·have het:(kn=nm)=True:=eq_true he
  simp -dsimp (disch:=first | assumption | omega | (simp only [Ae];try omega)) only [↓Ai,Ad,Ag,Ah,eq_self,Nat.reduceEqDiff,↓reduceIte,reduceCtorEq,hg,hgk,het,↓EG,↓Gj]
  exact hno ⟨k,hki,by rw [hnk,he]⟩
 ·simp -dsimp (disch:=first | assumption | omega | (simp only [Ae];try omega)) only [↓Ai,Ad,Ag,Ah,eq_self,Nat.reduceEqDiff,↓reduceIte,reduceCtorEq,hg,hgk,he,↓EG,↓Gj]
  refine AB (i - (k+1)) (by omega) (Nat.le_refl _) ⟨k+1,rfl,by omega,fun j hj => ?_,rfl,by simp [forget,get]⟩
  by_cases hjk:j=k
  ·subst hjk; rw [hnk]; exact fun e=>he (Option.some.inj e)
  ·exact hn j (by omega)
def Aid (l:List StD) (i:Nat):Prop:=(l.length≤500∧(ES (l.take i)).Nodup)∧∀ s∈l.take i,AeQ s
theorem Aj7 {l:List StD} (h:Aid l l.length):Nb l:=by
 unfold Aid at h
 rw [List.take_length] at h
 exact ⟨⟨h.1.2,h.1.1⟩,h.2⟩
theorem AhJ {l:List StD} {i:Nat} {s:StD} (h:Aid l i) (hi:l[i]?=some s) (h1:AeQ s) (h2:∀ k,k<i→(ES l)[k]?≠some s.1):Aid l (i+1):=by
 unfold Aid at *
 have e:l.take (i+1)=l.take i++[s]:=by rw [List.take_add_one,hi]; rfl
 rw [e]
 refine ⟨⟨h.1.1,?_⟩,fun x hx => ?_⟩
 ·unfold ES
  rw [List.map_append,List.nodup_append]
  refine ⟨h.1.2,by simp,fun a ha b hb => ?_⟩
  simp at hb
  subst hb
  rintro rfl
  rw [List.map_take] at ha
  obtain ⟨k,hk,hka⟩:=List.getElem_of_mem ha
  rw [List.length_take] at hk
  refine h2 k (by omega) ?_
  unfold ES
  rw [List.getElem_take] at hka
  rw [List.getElem?_eq_getElem (by omega),hka]
 ·rcases List.mem_append.1 hx with hx | hx
  ·exact h.2 x hx
  ·simp at hx; subst hx; exact h1
theorem AsD {l:List StD} {i k:Nat} {s:StD} (hi:l[i]?=some s) (hk:k<i) (h:(ES l)[k]?=some s.1):¬ Nb l:=by
 rintro ⟨⟨hn,_⟩,_⟩
 have h2:=AgY hi
 obtain ⟨a1,a2⟩:=List.getElem?_eq_some_iff.1 h
 obtain ⟨b1,b2⟩:=List.getElem?_eq_some_iff.1 h2
 exact (List.pairwise_iff_getElem.1 hn) k i a1 b1 hk (by rw [a2,b2])
theorem XB (l:List StD) (hf:AdN l):Ou Tryz.prog 24 [.sl 2 (l.map stT)] (AoR l):=by
 refine Am.toFreshV (Vs (by simp) ?_)
 obtain ⟨f1,f2⟩:=hf
 have no:¬ Nb l→∀ H',AiP F9 (fun x H'=>BF (frs H' x) (AoR l)) .ret [(2,UY),(3,i64 ((111:Nat):Int))] H':=by
  intro h1 H'
  simp -dsimp (disch:=first | assumption | omega | (simp only [Ae];try omega)) only [↓Ai,Ad,Ag,Ah,eq_self,Nat.reduceEqDiff,↓reduceIte,↓KX]
  exact ⟨fun h=>absurd h h1,fun _=>rfl⟩
 by_cases h500:l.length≤500
 case neg =>
  simp -dsimp (disch:=first | assumption | omega | (simp only [Ae];try omega)) only [↓Ai,Ad,Ag,Ah,eq_self,Nat.reduceEqDiff,↓reduceIte,reduceCtorEq,↓KU,↓FB,↓FP]
  exact no (fun h=>h500 h.1.2) _
 simp -dsimp (disch:=first | assumption | omega | (simp only [Ae];try omega)) only [↓Ai,Ad,Ag,Ah,eq_self,Nat.reduceEqDiff,↓reduceIte,reduceCtorEq,↓KU,↓FB,↓FP,↓OL,↓OG]
 refine Fp (fun q e G=>∃ (i j v cp:Nat) (b:List UInt8),q=l.length - i∧i≤l.length∧b=Ab1 ((l.take i).map Aan)∧b.length≤i*1004∧Aid l i∧G[j]?=some (.obj v (.arr b.length 1 (b.map by8)))∧1≤G.length∧e=[(0,.sl 2 (l.map stT)),(4,.os 1 j v [] 0 b.length cp),(5,i64 (i:Int))]) l.length ?_ ?_
 ·exact ⟨0,0,0,0,[],rfl,Nat.zero_le _,rfl,by simp,⟨⟨h500,by simp [ES]⟩,by simp⟩,rfl,by simp,by simp [forget,get]⟩
 rintro q e G ⟨i,j,v,cp,b,rfl,hi,hB,hbl,hP,hGj,hGn,rfl⟩
 have hjl:=(List.getElem?_eq_some_iff.1 hGj).1
 have hbt:=List.take_of_length_le (l:=b.map by8) (i:=b.length) (by simp)
 by_cases hil:i<l.length
 case neg =>
  have hi2:i=l.length:=by omega
  subst hi2
  rw [List.take_length] at hB
  have hok:=Aj7 hP
  have hE:AaR l=b++Rj:=by rw [hB]; rfl
  have hSj:∀ o:Ob,(G.set j o)[j]?=some o:=fun o=>List.getElem?_set_self hjl
  have hc4:List.map by8 b++[by8 48,by8 48,by8 48,by8 48]=(AaR l).map by8:=by rw [hE,List.map_append]; rfl
  have hl4:(AaR l).length=b.length+4:=by rw [hE,List.length_append]; rfl
  have ht4:=List.take_of_length_le (l:=(AaR l).map by8) (i:=b.length+4) (by simp [hl4])
  simp -dsimp (disch:=first | assumption | omega | (simp only [Ae];try omega)) only [↓Ai,Ad,Ag,Ah,eq_self,Nat.reduceEqDiff,↓reduceIte,Nat.reduceAdd,reduceCtorEq,Nat.reduceLeDiff,AU,hGj,hbt,hSj,hc4,ht4,↓FC,↓O3,↓KX]
  exact ⟨fun _=>rfl,fun h=>absurd hok h⟩
 obtain ⟨⟨nm,x⟩,hr⟩:∃ r,l[i]?=some r:=⟨_,List.getElem?_eq_getElem hil⟩
 have hmem:=List.mem_of_getElem? hr
 have hrm:=f2 _ hmem
 simp only at hrm
 obtain ⟨hnl,hx1,hx2⟩:=hrm
 have hg:(l.map stT)[i]?=some (.agg [ts nm,i64 x]):=by rw [List.getElem?_map,hr]; rfl
 have hsn:l.take (i+1)=l.take i++[(nm,x)]:=by rw [List.take_add_one,hr]; rfl
 have bad:¬ AeQ (nm,x)→¬ Nb l:=fun h k=>h (k.2 _ hmem)
 simp -dsimp (disch:=first | assumption | omega | (simp only [Ae];try omega)) only [↓Ai,Ad,Ag,Ah,eq_self,Nat.reduceEqDiff,↓reduceIte,reduceCtorEq,hg,↓FC,↓OJ]
 refine (AmG nm (by omega)).calls rfl fun r hr' => ?_
 subst hr'
 have h4:(nmB nm=false∧¬ AeQ (nm,x))∨(nmB nm=true∧x<0∧¬ AeQ (nm,x))∨(nmB nm=true∧0≤x∧999<x∧¬ AeQ (nm,x))∨(nmB nm=true∧0≤x∧x≤999∧AeQ (nm,x)):=by
  unfold AeQ
  simp only
  rw [←Y6]
  cases nmB nm
  ·exact .inl ⟨rfl,by simp⟩
  ·simp only [true_and]
   omega
 rcases h4 with ⟨hnb,h⟩ | ⟨hnb,hx0,h⟩ | ⟨hnb,hx0,hx9,h⟩ | ⟨hnb,hx0,hx9,hS⟩
 ·rw [hnb]
  simp -dsimp (disch:=first | assumption | omega | (simp only [Ae];try omega)) only [↓Ai,Ad,Ag,Ah,eq_self,Nat.reduceEqDiff,↓reduceIte,reduceCtorEq,↓CP]
  exact no (bad h) _
 ·rw [hnb]
  simp -dsimp (disch:=first | assumption | omega | (simp only [Ae];try omega)) only [↓Ai,Ad,Ag,Ah,eq_self,Nat.reduceEqDiff,↓reduceIte,Nat.reduceAdd,reduceCtorEq,hg,↓CP]
  exact no (bad h) _
 ·rw [hnb]
  have hx0':¬ x<0:=by omega
  simp -dsimp (disch:=first | assumption | omega | (simp only [Ae];try omega)) only [↓Ai,Ad,Ag,Ah,eq_self,Nat.reduceEqDiff,↓reduceIte,Nat.reduceAdd,reduceCtorEq,hg,↓CP]
  exact no (bad h) _
 rw [hnb]
 have hx0':¬ x<0:=by omega
 have hx9':¬ 999<x:=by omega
 simp -dsimp (disch:=first | assumption | omega | (simp only [Ae];try omega)) only [↓Ai,Ad,Ag,Ah,eq_self,Nat.reduceEqDiff,↓reduceIte,Nat.reduceAdd,reduceCtorEq,hg,↓CP,↓PM,↓QA]
 refine Aik hr f1 (y := .os 1 j v [] 0 b.length cp) (by simp [forget,get]) (fun hn n m => ?_) (fun ⟨k,hk,he⟩ => ?_)
 ·have hpl:=(Afb hS.1).1
  simp only at hpl
  have hP':=AhJ hP hr hS hn
  have c1:Fe 9 BinOp.add (.string (str [111,107,32])) (.string (str nm))=some (.string (str ([111,107,32]++nm))):=AdG (by simp; omega)
  have hrt:=AoY (s:=[111,107,32]++nm) (H:=G) (by simp; omega)
  have hz1:[111,107,32]++nm++[10]=Iu [wOk,nm]:=by rw [Aba]; rfl
  rw [hz1] at hrt
  have hzl:(BG (Iu [wOk,nm])).length≤1004:=by rw [Ip,Aba]; simp [wOk]; omega
  generalize [111,107,32]++nm=y1 at *
  simp -dsimp (disch:=first | assumption | omega | (simp only [Ae];try omega)) only [↓Ai,Ad,Ag,Ah,eq_self,Nat.reduceEqDiff,↓reduceIte,reduceCtorEq,hg,c1,↓P7]
  refine Abg (Am.mono hrt ?_)
  rintro z H2 ⟨j2,v2,rfl,k1,k2,k3,k4⟩
  have hj2:H2[j]?=some (.obj v (.arr b.length 1 (b.map by8))):=by rw [k4 j hjl]; exact hGj
  by_cases hp:0<x
  ·obtain ⟨n,hn1,hn2⟩:=AdI hS
   simp only at hn2
   subst hn2
   have hn0:0<n:=by omega
   have hst:Aan (nm,(n:Int))=[wNg,nm,d3 n]:=by unfold Aan; rw [if_neg (by simp only; omega),Aga hn1]
   have hd:=(AoG n hn1).2
   have hdc:=Ah8 n (by omega)
   rw [AoL hn1] at hdc
   have c2:Fe 9 BinOp.add (.string (str [110,103,32])) (.string (str nm))=some (.string (str ([110,103,32]++nm))):=AdG (by simp; omega)
   have c3:Fe 9 BinOp.add (.string (str ([110,103,32]++nm))) (.string (str [32]))=some (.string (str ([110,103,32]++nm++[32]))):=AdG (by simp; omega)
   have c4:Fe 9 BinOp.add (.string (str ([110,103,32]++nm++[32]))) (.string (str (d3 n)))=some (.string (str ([110,103,32]++nm++[32]++d3 n))):=AdG (by simp; omega)
   have hrt2:=AoY (s:=[110,103,32]++nm++[32]++d3 n) (H:=H2) (by simp; omega)
   have hz3:[110,103,32]++nm++[32]++d3 n++[10]=Iu [wNg,nm,d3 n]:=by rw [W9]; simp [wNg]
   rw [hz3] at hrt2
   have hzl2:(BG (Iu [wNg,nm,d3 n])).length≤1004:=by rw [Ip,W9]; simp [wNg]; omega
   have hz2:=List.take_of_length_le (l:=(BG (Iu [wNg,nm,d3 n])).map by8) (i:=(BG (Iu [wNg,nm,d3 n])).length) (by simp)
   have hS2:b++BG (Iu [wNg,nm,d3 n])=Ab1 ((l.take (i+1)).map Aan):=by rw [hsn,List.map_append,Ac5,List.map_cons,List.map_nil,Ad8,hst,hB]
   generalize [110,103,32]++nm++[32]++d3 n=y2 at *
   generalize [110,103,32]++nm++[32]=y3 at *
   generalize [110,103,32]++nm=y4 at *
   generalize BG (Iu [wNg,nm,d3 n])=z at *
   simp -dsimp (disch:=first | assumption | omega | (simp only [Ae];try omega)) only [↓Ai,Ad,Ag,Ah,eq_self,Nat.reduceEqDiff,↓reduceIte,Nat.reduceAdd,reduceCtorEq,hg,hn0,c2,c3,↓Gg,↓Gy,↓Ph]
   refine ⟨_,hdc.calls rfl fun r hr=>⟨hr,rfl⟩,?_⟩
   simp -dsimp (disch:=first | assumption | omega | (simp only [Ae];try omega)) only [↓Ai,Ad,Ag,Ah,eq_self,Nat.reduceEqDiff,↓reduceIte,c4]
   refine Abg (Am.mono hrt2 ?_)
   rintro z9 H3 ⟨j3,v3,rfl,n1,n2,n3,n4⟩
   have hj3:H3[j]?=some (.obj v (.arr b.length 1 (b.map by8))):=by rw [n4 j (by omega)]; exact hj2
   simp -dsimp (disch:=first | assumption | omega | (simp only [Ae];try omega)) only [↓Ai,Ad,Ag,Ah,eq_self,Nat.reduceEqDiff,↓reduceIte,reduceCtorEq,n1,hz2,hbt,hj3,↓FQ]
   refine AB (l.length - (i+1)) (by omega) (by simp; omega) ⟨i+1,j,v+1,(b++z).length,b++z,rfl,by omega,hS2,by rw [List.length_append]; omega,hP',?_,by simp; omega,by simp [forget,get]⟩
   rw [List.getElem?_set_self (by omega),List.length_append,List.map_append]
  ·have hst:Aan (nm,x)=[wOk,nm]:=by unfold Aan; rw [if_pos (by simp only; omega)]
   have hz2:=List.take_of_length_le (l:=(BG (Iu [wOk,nm])).map by8) (i:=(BG (Iu [wOk,nm])).length) (by simp)
   have hS2:b++BG (Iu [wOk,nm])=Ab1 ((l.take (i+1)).map Aan):=by rw [hsn,List.map_append,Ac5,List.map_cons,List.map_nil,Ad8,hst,hB]
   generalize BG (Iu [wOk,nm])=z at *
   simp -dsimp (disch:=first | assumption | omega | (simp only [Ae];try omega)) only [↓Ai,Ad,Ag,Ah,eq_self,Nat.reduceEqDiff,↓reduceIte,Nat.reduceAdd,reduceCtorEq,hg,k1,hz2,hbt,hj2,↓Gg,↓Gy,↓FQ]
   refine AB (l.length - (i+1)) (by omega) (by simp; omega) ⟨i+1,j,v+1,(b++z).length,b++z,rfl,by omega,hS2,by rw [List.length_append]; omega,hP',?_,by simp; omega,by simp [forget,get]⟩
   rw [List.getElem?_set_self (by omega),List.length_append,List.map_append]
 ·simp -dsimp (disch:=first | assumption | omega | (simp only [Ae];try omega)) only [↓Ai]
  exact no (AsD hr hk he) _
end
section
open Go.RowKit
variable [AP] [Fa] [Au] [Az]
section
omit [Fa] [Au] [Az]
theorem AfP:∀ {l w x:List UInt8},x∈spl w l→x.length≤w.length+l.length
 | [],w,x,h=>by rw [spl,List.mem_singleton] at h; subst h; simp
 | c::l,w,x,h=>by
  rw [spl] at h
  split at h
  ·rcases List.mem_cons.1 h with rfl | h
   ·simp
   ·have:=AfP h; simp at this ⊢; omega
  ·have:=AfP h; simp at this ⊢; omega
theorem Ac8 {b x:List UInt8} (h:x∈KY b):x.length≤b.length:=by
 have:=AfP h
 have:=Abf b
 simp at *; omega
theorem AbL {ls:List (List UInt8)} {b:List UInt8} (h:AV ls b):4*ls.length≤b.length:=by
 have h1:∀ l:List (List UInt8),4*l.length≤(l.flatMap BG).length:=fun l=>by
  induction l with
  | nil=>simp
  | cons x l ih=>rw [List.flatMap_cons,List.length_append,Ip,List.length_cons]; omega
 have:=h1 ls
 rw [h.2] at this
 exact this
end
theorem Agj (a b:List UInt8):BC Tryz.prog 96 [slB a,slB b] (fun x=>x=tb (decide (a=b))):=by
 refine Am.toPureV (Acm (by simp) ?_)
 simp -dsimp (disch:=first | assumption | omega) only [↓Ai,Ad,Ag,Ah,eq_self,Nat.reduceEqDiff,↓reduceIte,Nat.reduceAdd,reduceCtorEq,↓Ac7]
theorem Ar7 {b s:List UInt8}:BC Tryz.prog 66 [slB b,slB s,.val .nilIface] (fun r=>r=if b=s then .val .nilIface else eno 111):=by
 refine Am.toPureV (YC (by simp) ?_)
 simp -dsimp (disch:=first | assumption | omega | (simp only [Ae];try omega)) only [↓Ai,Ad,Ag,Ah,eq_self,Nat.reduceEqDiff,↓reduceIte,Nat.reduceAdd,reduceCtorEq,↓V3]
 refine (Agj b s).calls rfl fun r hr => ?_
 subst hr
 by_cases h:b=s
 ·rw [decide_eq_true h,if_pos h]
  simp -dsimp (disch:=first | assumption | omega | (simp only [Ae];try omega)) only [↓Ai,Ad,Ag,Ah,eq_self,Nat.reduceEqDiff,↓reduceIte,↓O7]
 ·rw [decide_eq_false h,if_neg h]
  simp -dsimp (disch:=first | assumption | omega | (simp only [Ae];try omega)) only [↓Ai,Ad,Ag,Ah,eq_self,Nat.reduceEqDiff,↓reduceIte,↓O7]
  rfl
theorem Atb {b:List UInt8} {n:Int}:BC Tryz.prog 66 [slB b,UY,eno n] (fun r=>r=eno 111):=by
 refine Am.toPureV (YC (by simp) ?_)
 simp -dsimp (disch:=first | assumption | omega | (simp only [Ae];try omega)) only [↓Ai,Ad,Ag,Ah,eq_self,Nat.reduceEqDiff,↓reduceIte,Nat.reduceAdd,reduceCtorEq,↓V3,↓O7]
 rfl
end
section
open Go.RowKit
variable [AP] [Fa] [Aq] [Au] [Az]
theorem ZU (s:List UInt8) : -9223372036854775808≤MP s∧MP s≤9223372036854775807:=by
 unfold MP
 split
 ·rename_i v h; exact Lib.atoiAll_bounds h
 ·omega
 ·unfold Lib.atoiSat; split<;>omega
theorem AvX (s:List UInt8) (hs:s.length≤1000000):BC Tryz.prog 84 [ts s] (fun r=>r = .tup [i64 (MP s),.any]):=by
 intro β F w vs hF hv
 obtain ⟨v1,us,rfl,h1,hv⟩:=BA.cons.1 hv
 rw [BA.nil] at hv; subst hv
 obtain rfl:=Rep.val.1 (Or.inl h1:Rep _ _ _ _)
 have hsz:(str s).size≤281474976710656:=by simp [str,ByteArray.size]; omega
 have hsd:(str s).data.toList=s:=Agp s
 have fin:∀ (e:Ending) (w':World) (x:Value),e = .returned (.tuple #[.int .i64 (MP s),x])→Below w.heap.size w w'→∃ v x F',e = .returned v∧x = .tup [i64 (MP s),.any]∧Rep ⟨β,[],F'⟩ w' x v∧QL F w F' w':=by
  rintro e w' x rfl hb
  refine ⟨_,_,F,rfl,rfl,.inr ⟨_,[_,_],rfl,rfl,BA.cons.2 ⟨_,_,rfl,.inr (.inl rfl),BA.cons.2 ⟨_,_,rfl,.inl rfl,BA.nil.2 rfl⟩⟩⟩,⟨hb.os,hb.tape,hb.output,hb.size,hb.block,fun _ h=>h,fun _ _ h=>h,fun b hb'=>Nat.lt_of_lt_of_le (hF.1 b hb') hb.size⟩⟩
 cases h:Lib.atoiAll s with
 | ok v =>
  have e:MP s=v:=by unfold MP; rw [h]
  refine (Tryz.strconv_Atoi_ok (str s) (by omega) v (by rw [hsd]; exact h) w).mono ?_
  rintro e' w' ⟨rfl,hw⟩
  refine fin _ _ _ (by rw [e]) ?_
  rcases hw with rfl | ⟨t,rfl⟩
  ·exact Below.refl _ _
  ·exact Lib.bytesWorld_below _ _ _
 | «syntax» =>
  have e:MP s=0:=by unfold MP; rw [h]
  obtain ⟨t,a,hk⟩:=Au.k
  refine (Tryz.strconv_Atoi_syntax (str s) hsz (by rw [hsd]; exact h) _ w (Yr hF.2 hk) (.inr ⟨_,_,rfl⟩)).mono ?_
  rintro e' w' ⟨N,rfl,_,_,hb⟩
  exact fin _ _ _ (by rw [e]) hb
 | range =>
  have e:MP s=Lib.atoiSat s:=by unfold MP; rw [h]
  obtain ⟨t,a,hk⟩:=Az.k
  refine (Tryz.strconv_Atoi_range (str s) hsz (by rw [hsd]; exact h) _ w (Yr hF.2 hk) (.inr ⟨_,_,rfl⟩)).mono ?_
  rintro e' w' ⟨N,rfl,_,_,hb⟩
  exact fin _ _ _ (by rw [hsd,e]) hb
theorem AkS {q1 q2 q3:IntKind} {l h m:Int} {k id ver off n cp:Nat} {p:List (Nat×Nat)} {H:List Ob} {K:TV→Prop} [Tg K]:AaL (.sl3 k) H [.os k id ver p off n cp,.val (.int q1 l),.val (.int q2 h),.val (.int q3 m)] K=DD (0≤l∧l≤h∧h≤m∧m≤cp) (K (.os k id ver p (off+l.toNat) (h.toNat - l.toNat) (m.toNat - l.toNat))):=by
 unfold AaL
 simp only [gev,true_and]
 by_cases h:0≤l∧l≤h∧h≤m∧m≤cp
 ·rw [if_pos h]; simp [DD,h]
 ·rw [if_neg h]; simp [DD,h]
theorem AvB {k v n:Nat} {cs:List TV} {H:List Ob} {K:TV→List Ob→Prop} (hk:H[k]?=some (.obj v (.arr n 2 cs))) (hn:n≤1000000) (hK:K (.os 2 k v [] 0 n n) H):Am Tryz.prog 85 [.os 2 k v [] 0 n n] H K:=by
 refine FT (by simp) ?_
 simp -dsimp (disch:=first | assumption | omega | (simp only [Ae];try omega)) only [↓Ai,Ad,Ag,Ah,eq_self,Nat.reduceEqDiff,↓reduceIte,reduceCtorEq,AkS,↓F5]
 exact hK
theorem AgL:∀ l:List StD,NE (l.map stT)=true
 | []=>rfl
 | r::l=>by
  rw [List.map_cons,NE,AgL l]
  simp [stT,Afg,NE]
theorem AjI {f:List UInt8→Int} {ls:List (List UInt8)} {i:Nat} {x:List UInt8} (h:ls[i]?=some x):XI f (ls.take (i+1))=LD f (XI f (ls.take i)) (KY x):=by
 unfold XI
 rw [List.take_add_one,h,List.map_append,List.foldl_append]; rfl
def Ao1 (f:List UInt8→Int):Prop:=∀ s,-9223372036854775808≤f s∧f s≤9223372036854775807
def X6 (n:Nat) (l:List StD):Prop:=l.length≤n∧∀ s∈l,s.1.length≤1000 ∧ -9223372036854775808≤s.2∧s.2≤9223372036854775807
theorem Adi {f:List UInt8→Int} (hf:Ao1 f) {ls:List (List UInt8)} (h:∀ x∈ls,x.length≤1000):X6 ls.length (XI f ls):=by
 have:∀ (ls:List (List UInt8)) (n:Nat) (o:List StD),(∀ x∈ls,x.length≤1000)→X6 n o→X6 (n+ls.length) ((ls.map KY).foldl (LD f) o):=fun ls=>by
  induction ls with
  | nil=>exact fun n o _ h=>h
  | cons x ls ih =>
   intro n o hx h
   rw [List.map_cons,List.foldl_cons,List.length_cons,show n+(ls.length+1)=(n+1)+ls.length by omega]
   refine ih _ _ (fun y hy=>hx y (by simp [hy])) ?_
   obtain ⟨h1,h2⟩:=h
   have hx1:=hx x (by simp)
   have keep:X6 (n+1) o:=⟨by omega,h2⟩
   have add:∀ (b:List UInt8) (z:Int),b∈KY x→(-9223372036854775808≤z∧z≤9223372036854775807)→X6 (n+1) (o++[(b,z)]):=fun b z hb hz=>by
    have:=Ac8 hb
    refine ⟨by simp; omega,fun s hs => ?_⟩
    rcases List.mem_append.1 hs with hs | hs
    ·exact h2 s hs
    ·rw [List.mem_singleton] at hs; subst hs; exact ⟨by simp only; omega,hz⟩
   unfold LD
   split
   ·rename_i a b hw
    split
    ·exact add b 0 (by rw [hw]; simp) (by omega)
    ·exact keep
   ·rename_i a b c hw
    split
    ·exact add b _ (by rw [hw]; simp) (hf c)
    ·exact keep
   ·exact keep
 have h0:=this ls 0 [] h ⟨by simp,fun r hr=>by cases hr⟩
 rw [Nat.zero_add] at h0
 exact h0
theorem AiG {f:List UInt8→Int} (hf:Ao1 f) {ls:List (List UInt8)} (h:∀ x∈ls,x.length≤1000) (hn:ls.length≤20000):AdN (XI f ls):=by
 obtain ⟨h1,h2⟩:=Adi hf h
 exact ⟨by omega,fun s hs=>⟨by have:=(h2 s hs).1; omega,(h2 s hs).2⟩⟩
def Aw6 (b:List UInt8) (r:TV):Prop:=(∀ l,Nb l→AaR l=b→r = .tup [.sl 2 (l.map stT),.val .nilIface])∧((∀ l,Nb l→AaR l≠b)→(∀ ls,AV ls b→r = .tup [UY,eno 111])∧((∀ ls,¬ AV ls b)→r = .tup [UY,eno 110]))
theorem Aby (ws:List (List UInt8)):(∃ a b,ws=[a,b])∨(∃ a b c,ws=[a,b,c])∨(ws.length≠2∧ws.length≠3):=by
 match ws with
 | []=>exact .inr (.inr (by simp))
 | [a]=>exact .inr (.inr (by simp))
 | [a,b]=>exact .inl ⟨a,b,rfl⟩
 | [a,b,c]=>exact .inr (.inl ⟨a,b,c,rfl⟩)
 | a::b::c::d::r=>exact .inr (.inr (by simp))
theorem Ag4 {f:List UInt8→Int} {o:List StD} {ws:List (List UInt8)} (h2:ws.length≠2) (h3:ws.length≠3):LD f o ws=o:=by
 unfold LD
 split
 ·exact absurd rfl h2
 ·exact absurd rfl h3
 ·rfl
theorem Agl (b:List UInt8) (hb:b.length≤70000):Ou Tryz.prog 52 [slB b] (Aw6 b):=by
 refine Am.toFreshV (XL (by simp) ?_)
 simp -dsimp (disch:=first | assumption | omega | (simp only [Ae];try omega)) only [↓Ai,Ad,Ag,Ah,eq_self,↓reduceIte,reduceCtorEq,↓WA,↓QU]
 refine (AtN b (by omega)).calls rfl fun r hr => ?_
 by_cases hL:∃ ls,AV ls b
 case neg =>
  have hno:∀ ls,¬ AV ls b:=fun ls h=>hL ⟨ls,h⟩
  rw [hr.2 hno]
  simp -dsimp (disch:=first | assumption | omega | (simp only [Ae];try omega)) only [↓Ai,Ad,Ag,Ah,eq_self,Nat.reduceEqDiff,↓reduceIte,reduceCtorEq,↓Ie,↓EM]
  exact ⟨fun o h1 e=>absurd e (Ahu hno o h1),fun _=>⟨fun ls h=>absurd h (hno ls),fun _=>rfl⟩⟩
 obtain ⟨ls,hls⟩:=hL
 rw [hr.1 ls hls]
 clear hr
 have hlen:ls.length≤20000:=by have:=AbL hls; omega
 simp -dsimp (disch:=first | assumption | omega | (simp only [Ae];try omega)) only [↓Ai,Ad,Ag,Ah,eq_self,Nat.reduceEqDiff,↓reduceIte,reduceCtorEq,↓Ie,↓Rn,↓Rz,↓Rx]
 refine Fp (fun q e H=>∃ (i k v:Nat) (o:List StD),q=ls.length - i∧i≤ls.length∧o=XI MP (ls.take i)∧1≤H.length∧H[k]?=some (.obj v (.arr o.length 2 (o.map stT)))∧e=[(0,slB b),(6,.os 2 k v [] 0 o.length o.length),(21,.sl 1 (ls.map L6)),(22,i64 (ls.length:Int)),(23,i64 (i:Int))]) ls.length ?_ ?_
 ·exact ⟨0,0,0,[],rfl,Nat.zero_le _,rfl,by simp,rfl,by simp [forget,get]⟩
 rintro q e H ⟨i,k,v,o,rfl,hi,hO,h1l,hHk,rfl⟩
 have hsm:=Adi (f:=MP) ZU (ls:=ls.take i) (fun x hx=>hls.1 x (List.mem_of_mem_take hx))
 rw [←hO,List.length_take,Nat.min_eq_left hi] at hsm
 obtain ⟨s2,s3⟩:=hsm
 have hkl:=(List.getElem?_eq_some_iff.1 hHk).1
 have hrt:(o.map stT).take o.length=o.map stT:=List.take_of_length_le (by simp)
 by_cases hil:i<ls.length
 case neg =>
  have hi2:i=ls.length:=by omega
  rw [List.take_of_length_le (by omega)] at hO
  simp -dsimp (disch:=first | assumption | omega | (simp only [Ae];try omega)) only [↓Ai,Ad,Ag,Ah,eq_self,Nat.reduceEqDiff,↓reduceIte,reduceCtorEq,↓BH,↓BI,↓Rk]
  have hfit:=AiG (f:=MP) ZU hls.1 hlen
  rw [←hO] at hfit
  refine (Z7 o hfit).lends (args':=[.sl 2 (o.map stT)]) (by simp -dsimp (disch:=first | assumption | omega | (simp only [Ae];try omega)) only [Ag,Ah,eq_self,↓reduceIte,hHk,hrt]) fun r hr => ?_
  by_cases hok:Nb o
  ·rw [hr.1 hok]
   clear hr
   simp -dsimp (disch:=first | assumption | omega | (simp only [Ae];try omega)) only [↓Ai,Ad,Ag,Ah,eq_self,Nat.reduceEqDiff,↓reduceIte,reduceCtorEq,↓Iy]
   refine Ar7.calls rfl fun r hr => ?_
   subst hr
   by_cases hB:b=AaR o
   ·rw [if_pos hB]
    simp -dsimp (disch:=first | assumption | omega | (simp only [Ae];try omega)) only [↓Ai,Ad,Ag,Ah,eq_self,Nat.reduceEqDiff,↓reduceIte,reduceCtorEq]
    refine Abg (AvB hHk (by omega) ?_)
    simp -dsimp (disch:=first | assumption | omega | (simp only [Ae];try omega)) only [↓Ai,Ad,Ag,Ah,eq_self,Nat.reduceEqDiff,↓reduceIte,hHk,hrt,AgL,↓EM]
    refine ⟨fun o' h1 e => ?_,fun h=>absurd hB.symm (h _ hok)⟩
    have:=Vk Adc hls h1 e
    rw [←hO] at this
    subst this
    rfl
   ·rw [if_neg hB]
    simp -dsimp (disch:=first | assumption | omega | (simp only [Ae];try omega)) only [↓Ai,Ad,Ag,Ah,eq_self,Nat.reduceEqDiff,↓reduceIte,reduceCtorEq,↓EM]
    refine ⟨fun o' h1 e => ?_,fun _=>⟨fun _ _=>rfl,fun h=>absurd hls (h ls)⟩⟩
    have:=Vk Adc hls h1 e
    rw [←hO] at this
    subst this
    exact absurd e.symm hB
  ·rw [hr.2 hok]
   clear hr
   simp -dsimp (disch:=first | assumption | omega | (simp only [Ae];try omega)) only [↓Ai,Ad,Ag,Ah,eq_self,Nat.reduceEqDiff,↓reduceIte,reduceCtorEq,↓Iy]
   refine Atb.calls rfl fun r hr => ?_
   subst hr
   simp -dsimp (disch:=first | assumption | omega | (simp only [Ae];try omega)) only [↓Ai,Ad,Ag,Ah,eq_self,Nat.reduceEqDiff,↓reduceIte,reduceCtorEq,↓EM]
   refine ⟨fun o' h1 e => ?_,fun _=>⟨fun _ _=>rfl,fun h=>absurd hls (h ls)⟩⟩
   have:=Vk Adc hls h1 e
   rw [←hO] at this
   subst this
   exact absurd h1 hok
 have hg:ls[i]?=some ls[i]:=List.getElem?_eq_getElem hil
 have hgl:(ls.map L6)[i]?=some (L6 ls[i]):=by rw [List.getElem?_map,hg]; rfl
 have hsu:=AjI (f:=MP) hg
 rw [←hO] at hsu
 have hx1:=hls.1 _ (List.mem_of_getElem? hg)
 have hwl:∀ w∈KY ls[i],w.length≤ls[i].length:=fun w hw=>Ac8 hw
 unfold L6 at hgl
 generalize KY ls[i]=ws at *
 have hA:∀ T:List Ob,(H++T)[k]?=some (.obj v (.arr o.length 2 (o.map stT))):=fun T=>by rw [List.getElem?_append_left hkl]; exact hHk
 rcases Aby ws with ⟨a,c,rfl⟩ | ⟨a,c,d,rfl⟩ | ⟨h2,h3⟩
 ·have hgl':(ls.map L6)[i]?=some (.sl 1 [ts a,ts c]):=hgl
  by_cases ha:a=[111,107]
  ·have hst:LD MP o [a,c]=o++[(c,0)]:=by unfold LD; simp [ha,wOk]
   have hat:(a=[111,107])=True:=eq_true ha
   rw [hst] at hsu
   simp -dsimp (disch:=first | assumption | omega | (simp only [Ae];try omega)) only [↓Ai,Ad,Ag,Ah,eq_self,Nat.reduceEqDiff,↓reduceIte,Nat.reduceAdd,reduceCtorEq,Nat.reduceLeDiff,hgl',hat,hA,hrt,Auh,↓BH,↓BI,↓CB,↓Cj,↓Cm,↓TB]
   have hl1:(o++[(c,0)]).length=o.length+1:=by simp
   refine AB (ls.length - (i+1)) (by omega) (by simp<;>omega) ⟨i+1,k,v+1,_,rfl,by omega,hsu.symm,by simp<;>omega,?_,by rw [hl1]; simp [forget,get]⟩
   rw [ga (by simp<;>omega),List.getElem?_set_self hkl,hl1,List.map_append]; rfl
  ·have hst:LD MP o [a,c]=o:=by unfold LD; simp [ha,wOk]
   rw [hst] at hsu
   simp -dsimp (disch:=first | assumption | omega | (simp only [Ae];try omega)) only [↓Ai,Ad,Ag,Ah,eq_self,Nat.reduceEqDiff,↓reduceIte,Nat.reduceAdd,reduceCtorEq,hgl',ha,↓BH,↓BI,↓CB,↓Cj,↓Cm,↓Df,↓Di]
   exact AB (ls.length - (i+1)) (by omega) h1l ⟨i+1,k,v,_,rfl,by omega,hsu.symm,h1l,hHk,by simp [forget,get]⟩
 ·have hgl':(ls.map L6)[i]?=some (.sl 1 [ts a,ts c,ts d]):=hgl
  have hdl:=hwl d (by simp)
  by_cases ha:a=[110,103]
  ·have hst:LD MP o [a,c,d]=o++[(c,MP d)]:=by unfold LD; simp [ha,wNg]
   have hat:(a=[110,103])=True:=eq_true ha
   rw [hst] at hsu
   simp -dsimp (disch:=first | assumption | omega | (simp only [Ae];try omega)) only [↓Ai,Ad,Ag,Ah,eq_self,Nat.reduceEqDiff,↓reduceIte,Nat.reduceAdd,reduceCtorEq,hgl',hat,↓BH,↓BI,↓CB,↓Cj,↓Cm,↓Df,↓Di,↓TA]
   refine (AvX d (by omega)).calls rfl fun r hr => ?_
   subst hr
   generalize MP d=y at *
   simp -dsimp (disch:=first | assumption | omega | (simp only [Ae];try omega)) only [↓Ai,Ad,Ag,Ah,eq_self,Nat.reduceEqDiff,↓reduceIte,Nat.reduceAdd,reduceCtorEq,Nat.reduceLeDiff,hA,hrt,Auh]
   have hl1:(o++[(c,y)]).length=o.length+1:=by simp
   refine AB (ls.length - (i+1)) (by omega) (by simp<;>omega) ⟨i+1,k,v+1,_,rfl,by omega,hsu.symm,by simp<;>omega,?_,by rw [hl1]; simp [forget,get]⟩
   rw [ga (by simp<;>omega),List.getElem?_set_self hkl,hl1,List.map_append]; rfl
  ·have hst:LD MP o [a,c,d]=o:=by unfold LD; simp [ha,wNg]
   rw [hst] at hsu
   simp -dsimp (disch:=first | assumption | omega | (simp only [Ae];try omega)) only [↓Ai,Ad,Ag,Ah,eq_self,Nat.reduceEqDiff,↓reduceIte,Nat.reduceAdd,reduceCtorEq,hgl',ha,↓BH,↓BI,↓CB,↓Cj,↓Cm,↓Df,↓Di]
   exact AB (ls.length - (i+1)) (by omega) h1l ⟨i+1,k,v,_,rfl,by omega,hsu.symm,h1l,hHk,by simp [forget,get]⟩
 ·rw [Ag4 h2 h3] at hsu
  simp -dsimp (disch:=first | assumption | omega | (simp only [Ae];try omega)) only [↓Ai,Ad,Ag,Ah,eq_self,Nat.reduceEqDiff,↓reduceIte,reduceCtorEq,hgl,h2,h3,↓BH,↓BI,↓CB,↓Cj,↓Cm,↓Df,↓Di]
  exact AB (ls.length - (i+1)) (by omega) h1l ⟨i+1,k,v,_,rfl,by omega,hsu.symm,h1l,hHk,by simp [forget,get]⟩
end
section
open Go.RowKit
variable [AP] [Fa] [Au] [Az]
end
section
open Go.RowKit
variable [AP] [Fa] [Aq] [Au] [Az]
theorem AcX (s:List UInt8) : -1000000≤AbY s∧AbY s≤1000000:=by
 unfold AbY
 have:∀ (l:List UInt8),l.length≤4 → -1000000≤l.foldl (fun n c=>n*10+(c.toNat:Int) - 48) 0∧l.foldl (fun n c=>n*10+(c.toNat:Int) - 48) 0≤1000000:=by
  intro l hl
  match l,hl with
  | [],_=>simp
  | [a],_=>have:=a.toNat_lt; simp only [List.foldl]; omega
  | [a,b],_=>have:=a.toNat_lt; have:=b.toNat_lt; simp only [List.foldl]; omega
  | [a,b,c],_=>have:=a.toNat_lt; have:=b.toNat_lt; have:=c.toNat_lt; simp only [List.foldl]; omega
  | [a,b,c,d],_=>have:=a.toNat_lt; have:=b.toNat_lt; have:=c.toNat_lt; have:=d.toNat_lt; simp only [List.foldl]; omega
 exact this _ (by simp; omega)
theorem AbO (s:List UInt8) : -9223372036854775808≤AbY s∧AbY s≤9223372036854775807:=by
 have:=AcX s
 omega
def Aud (b:List UInt8) (r:TV):Prop:=(∀ l,Nb l→AaR l=b→r = .tup [.sl 2 (l.map stT),i64 ((0:Nat):Int)])∧((∀ l,Nb l→AaR l≠b)→(∀ ls,AV ls b→r = .tup [UY,i64 ((111:Nat):Int)])∧((∀ ls,¬ AV ls b)→r = .tup [UY,i64 ((110:Nat):Int)]))
theorem AnF {d:List UInt8} {j:Nat} {c:UInt8} (h:d[j]?=some c) (hj:j<4):(d.take (j+1)).foldl (fun n c=>n*10+(c.toNat:Int) - 48) 0=(d.take j).foldl (fun n c=>n*10+(c.toNat:Int) - 48) 0*10+(c.toNat:Int) - 48:=by
 rw [List.take_add_one,h,List.foldl_append]; rfl
theorem Anp {b a c d:List UInt8} {lsT y:TV} {i:Nat} {Q:VEx→Env→List Ob→Prop} {H:List Ob} {E:Env} (hdl:d.length≤1000) (hE:forget [0,4,6,7,8,9,10] E=[(0,slB b),(4,lsT),(6,y),(7,i64 (i:Int)),(8,.sl 1 [ts a,ts c,ts d]),(9,i64 ((0:Nat):Int)),(10,i64 ((0:Nat):Int))])
  (hyes:∀ m n,Q (.exit 2) [(0,slB b),(4,lsT),(6,y),(7,i64 (i:Int)),(8,.sl 1 [ts a,ts c,ts d]),(9,i64 (AbY d)),(10,n),(65,m)] H) :
  vwp Tryz.prog (.loop [0,4,6,7,8,9,10] Fg) Q E H:=by
 refine Fp (fun q e G=>∃ j:Nat,q=4 - j∧j≤4∧j≤d.length∧G=H∧e=[(0,slB b),(4,lsT),(6,y),(7,i64 (i:Int)),(8,.sl 1 [ts a,ts c,ts d]),(9,i64 ((d.take j).foldl (fun n c=>n*10+(c.toNat:Int) - 48) 0)),(10,i64 (j:Int))]) 4 ⟨0,rfl,by omega,by omega,rfl,by simpa using hE⟩ ?_
 rintro q e G ⟨j,rfl,hj,hjd,rfl,rfl⟩
 by_cases hjl:j<d.length
 ·by_cases hj4:j<4
  ·obtain ⟨x,hx⟩:∃ x,d[j]?=some x:=⟨_,List.getElem?_eq_getElem hjl⟩
   have ht:=AnF hx hj4
   have hbd:=AcX (d.take j)
   unfold AbY at hbd
   rw [List.take_take,Nat.min_eq_right (by omega)] at hbd
   generalize (d.take j).foldl (fun n c=>n*10+(c.toNat:Int) - 48) 0=z at *
   have hxl:=x.toNat_lt
   have w1:IntKind.i64.wrap ((x.toNat:Nat):Int)=((x.toNat:Nat):Int):=FK (by omega) (by omega)
   simp -dsimp (disch:=first | assumption | omega | (simp only [Ae];try omega)) only [↓Ai,Ad,Ag,Ah,eq_self,Nat.reduceEqDiff,↓reduceIte,reduceCtorEq,AU,hx,w1,↓EO,↓QI]
   exact AB (4 - (j+1)) (by omega) (Nat.le_refl _) ⟨j+1,rfl,by omega,by omega,rfl,by rw [ht]; simp [forget,get]⟩
  ·have e4:j=4:=by omega
   have hd4:AbY d=(d.take j).foldl (fun n c=>n*10+(c.toNat:Int) - 48) 0:=by rw [e4]; rfl
   rw [←hd4]
   simp -dsimp (disch:=first | assumption | omega | (simp only [Ae];try omega)) only [↓Ai,Ad,Ag,Ah,eq_self,Nat.reduceEqDiff,↓reduceIte,reduceCtorEq,AU,↓EO]
   exact hyes _ _
 ·have hd4:AbY d=(d.take j).foldl (fun n c=>n*10+(c.toNat:Int) - 48) 0:=by unfold AbY; rw [List.take_of_length_le (by omega),List.take_of_length_le (by omega)]
  rw [←hd4]
  simp -dsimp (disch:=first | assumption | omega | (simp only [Ae];try omega)) only [↓Ai,Ad,Ag,Ah,eq_self,Nat.reduceEqDiff,↓reduceIte,reduceCtorEq,AU,↓EO]
  exact hyes _ _
theorem Afr (b:List UInt8) (hb:b.length≤70000):BC Tryz.prog 53 [slB b] (Aud b):=by
 refine Am.toPureV (Xj (by simp) ?_)
 simp -dsimp (disch:=first | assumption | omega | (simp only [Ae];try omega)) only [↓Ai,Ad,Ag,Ah,eq_self,↓reduceIte,reduceCtorEq,↓Vt,↓Py]
 refine (Aqy b (by omega)).calls rfl fun r hr => ?_
 by_cases hL:∃ ls,AV ls b
 case neg =>
  have hno:∀ ls,¬ AV ls b:=fun ls h=>hL ⟨ls,h⟩
  rw [hr.2 hno]
  simp -dsimp (disch:=first | assumption | omega | (simp only [Ae];try omega)) only [↓Ai,Ad,Ag,Ah,eq_self,Nat.reduceEqDiff,↓reduceIte,reduceCtorEq,↓Gp,↓ED]
  exact ⟨fun o h1 e=>absurd e (Ahu hno o h1),fun _=>⟨fun ls h=>absurd h (hno ls),fun _=>rfl⟩⟩
 obtain ⟨ls,hls⟩:=hL
 rw [hr.1 ls hls]
 clear hr
 have hlen:ls.length≤20000:=by have:=AbL hls; omega
 simp -dsimp (disch:=first | assumption | omega | (simp only [Ae];try omega)) only [↓Ai,Ad,Ag,Ah,eq_self,Nat.reduceEqDiff,↓reduceIte,reduceCtorEq,↓Gp,↓PZ,↓Qj,↓Pn]
 refine Fp (fun q e H=>∃ (i k v:Nat) (o:List StD),q=ls.length - i∧i≤ls.length∧o=XI AbY (ls.take i)∧1≤H.length∧H[k]?=some (.obj v (.arr o.length 2 (o.map stT)))∧e=[(0,slB b),(4,.sl 1 (ls.map slB)),(6,.os 2 k v [] 0 o.length o.length),(7,i64 (i:Int))]) ls.length ?_ ?_
 ·exact ⟨0,0,0,[],rfl,Nat.zero_le _,rfl,by simp,rfl,by simp [forget,get]⟩
 rintro q e H ⟨i,k,v,o,rfl,hi,hO,h1l,hHk,rfl⟩
 have hsm:=Adi (f:=AbY) AbO (ls:=ls.take i) (fun x hx=>hls.1 x (List.mem_of_mem_take hx))
 rw [←hO,List.length_take,Nat.min_eq_left hi] at hsm
 obtain ⟨s2,s3⟩:=hsm
 have hkl:=(List.getElem?_eq_some_iff.1 hHk).1
 have hrt:(o.map stT).take o.length=o.map stT:=List.take_of_length_le (by simp)
 by_cases hil:i<ls.length
 case neg =>
  have hi2:i=ls.length:=by omega
  rw [List.take_of_length_le (by omega)] at hO
  simp -dsimp (disch:=first | assumption | omega | (simp only [Ae];try omega)) only [↓Ai,Ad,Ag,Ah,eq_self,Nat.reduceEqDiff,↓reduceIte,reduceCtorEq,↓Gl,↓QB]
  have hfit:=AiG (f:=AbY) AbO hls.1 hlen
  rw [←hO] at hfit
  refine (XB o hfit).lends (args':=[.sl 2 (o.map stT)]) (by simp -dsimp (disch:=first | assumption | omega | (simp only [Ae];try omega)) only [Ag,Ah,eq_self,↓reduceIte,hHk,hrt]) fun r hr => ?_
  by_cases hok:Nb o
  ·rw [hr.1 hok]
   clear hr
   by_cases hB:AaR o=b
   ·have hBt:(AaR o=b)=True:=eq_true hB
    simp -dsimp (disch:=first | assumption | omega | (simp only [Ae];try omega)) only [↓Ai,Ad,Ag,Ah,eq_self,Nat.reduceEqDiff,↓reduceIte,reduceCtorEq,hBt,hHk,hrt,↓EF,↓ED]
    refine ⟨fun o' h1 e => ?_,fun h=>absurd hB (h _ hok)⟩
    have:=Vk Ago hls h1 e
    rw [←hO] at this
    subst this
    rfl
   ·simp -dsimp (disch:=first | assumption | omega | (simp only [Ae];try omega)) only [↓Ai,Ad,Ag,Ah,eq_self,Nat.reduceEqDiff,↓reduceIte,reduceCtorEq,hB,↓EF,↓ED]
    refine ⟨fun o' h1 e => ?_,fun _=>⟨fun _ _=>rfl,fun h=>absurd hls (h ls)⟩⟩
    have:=Vk Ago hls h1 e
    rw [←hO] at this
    subst this
    exact absurd e hB
  ·rw [hr.2 hok]
   clear hr
   simp -dsimp (disch:=first | assumption | omega | (simp only [Ae];try omega)) only [↓Ai,Ad,Ag,Ah,eq_self,Nat.reduceEqDiff,↓reduceIte,reduceCtorEq,↓EF,↓ED]
   refine ⟨fun o' h1 e => ?_,fun _=>⟨fun _ _=>rfl,fun h=>absurd hls (h ls)⟩⟩
   have:=Vk Ago hls h1 e
   rw [←hO] at this
   subst this
   exact absurd h1 hok
 have hg:ls[i]?=some ls[i]:=List.getElem?_eq_getElem hil
 have hgl:(ls.map slB)[i]?=some (slB ls[i]):=by rw [List.getElem?_map,hg]; rfl
 have hsu:=AjI (f:=AbY) hg
 rw [←hO] at hsu
 have hx1:=hls.1 _ (List.mem_of_getElem? hg)
 have hwl:∀ w∈KY ls[i],w.length≤ls[i].length:=fun w hw=>Ac8 hw
 have hwv:=Ati ls[i] (by omega)
 generalize KY ls[i]=ws at *
 generalize ls[i]=x at *
 have hA:∀ T:List Ob,(H++T)[k]?=some (.obj v (.arr o.length 2 (o.map stT))):=fun T=>by rw [List.getElem?_append_left hkl]; exact hHk
 simp -dsimp (disch:=first | assumption | omega | (simp only [Ae];try omega)) only [↓Ai,Ad,Ag,Ah,eq_self,Nat.reduceEqDiff,↓reduceIte,reduceCtorEq,hgl,↓Gl,↓Qp]
 refine hwv.calls rfl fun r hr => ?_
 subst hr
 rcases Aby ws with ⟨a,c,rfl⟩ | ⟨a,c,d,rfl⟩ | ⟨h2,h3⟩
 ·by_cases ha:a=[111,107]
  ·have hst:LD AbY o [a,c]=o++[(c,0)]:=by unfold LD; simp [ha,wOk]
   have hat:(a=[111,107])=True:=eq_true ha
   rw [hst] at hsu
   simp -dsimp (disch:=first | assumption | omega | (simp only [Ae];try omega)) only [↓Ai,Ad,Ag,Ah,eq_self,Nat.reduceEqDiff,↓reduceIte,Nat.reduceAdd,reduceCtorEq,Nat.reduceLeDiff,hat,hA,hrt,Auh,↓BN,↓QM,↓BV,↓Cb,↓BL]
   have hl1:(o++[(c,(0:Int))]).length=o.length+1:=by simp
   refine AB (ls.length - (i+1)) (by omega) (by simp<;>omega) ⟨i+1,k,v+1,_,rfl,by omega,hsu.symm,by simp<;>omega,?_,by rw [hl1]; simp [forget,get]⟩
   rw [ga (by simp<;>omega),List.getElem?_set_self hkl,hl1,List.map_append]; rfl
  ·have hst:LD AbY o [a,c]=o:=by unfold LD; simp [ha,wOk]
   rw [hst] at hsu
   simp -dsimp (disch:=first | assumption | omega | (simp only [Ae];try omega)) only [↓Ai,Ad,Ag,Ah,eq_self,Nat.reduceEqDiff,↓reduceIte,Nat.reduceAdd,reduceCtorEq,ha,↓BN,↓BV,↓Cb,↓BL]
   exact AB (ls.length - (i+1)) (by omega) h1l ⟨i+1,k,v,_,rfl,by omega,hsu.symm,h1l,hHk,by simp [forget,get]⟩
 ·have hdl:=hwl d (by simp)
  by_cases ha:a=[110,103]
  ·have hst:LD AbY o [a,c,d]=o++[(c,AbY d)]:=by unfold LD; simp [ha,wNg]
   have hat:(a=[110,103])=True:=eq_true ha
   rw [hst] at hsu
   simp -dsimp (disch:=first | assumption | omega | (simp only [Ae];try omega)) only [↓Ai,Ad,Ag,Ah,eq_self,Nat.reduceEqDiff,↓reduceIte,Nat.reduceAdd,reduceCtorEq,hat,↓BN,↓BV,↓Cb,↓QX,↓Rl,↓Q7]
   refine Anp (b:=b) (a:=a) (c:=c) (d:=d) (lsT := .sl 1 (ls.map slB)) (y := .os 2 k v [] 0 o.length o.length) (i:=i) (by omega) (by simp [forget,get]) fun m n => ?_
   generalize AbY d=y at *
   simp -dsimp (disch:=first | assumption | omega | (simp only [Ae];try omega)) only [↓Ai,Ad,Ag,Ah,eq_self,Nat.reduceEqDiff,↓reduceIte,Nat.reduceAdd,reduceCtorEq,Nat.reduceLeDiff,hA,hrt,Auh,↓Rh,↓BL]
   have hl1:(o++[(c,y)]).length=o.length+1:=by simp
   refine AB (ls.length - (i+1)) (by omega) (by simp<;>omega) ⟨i+1,k,v+1,_,rfl,by omega,hsu.symm,by simp<;>omega,?_,by rw [hl1]; simp [forget,get]⟩
   rw [ga (by simp<;>omega),List.getElem?_set_self hkl,hl1,List.map_append]; rfl
  ·have hst:LD AbY o [a,c,d]=o:=by unfold LD; simp [ha,wNg]
   rw [hst] at hsu
   simp -dsimp (disch:=first | assumption | omega | (simp only [Ae];try omega)) only [↓Ai,Ad,Ag,Ah,eq_self,Nat.reduceEqDiff,↓reduceIte,Nat.reduceAdd,reduceCtorEq,ha,↓BN,↓BV,↓Cb,↓BL]
   exact AB (ls.length - (i+1)) (by omega) h1l ⟨i+1,k,v,_,rfl,by omega,hsu.symm,h1l,hHk,by simp [forget,get]⟩
 ·rw [Ag4 h2 h3] at hsu
  simp -dsimp (disch:=first | assumption | omega | (simp only [Ae];try omega)) only [↓Ai,Ad,Ag,Ah,eq_self,Nat.reduceEqDiff,↓reduceIte,reduceCtorEq,h2,h3,↓BN,↓BV,↓Cb,↓BL]
  exact AB (ls.length - (i+1)) (by omega) h1l ⟨i+1,k,v,_,rfl,by omega,hsu.symm,h1l,hHk,by simp [forget,get]⟩
end
section
open Go.RowKit
variable [AP]
theorem Ak0 {l m:List UInt8} {k:Nat} (h:l.take k=m.take k) (h1:k<l.length) (h2:k<m.length) (e:l[k]=m[k]):l.take (k+1)=m.take (k+1):=by
 rw [List.take_succ_eq_append_getElem h1,List.take_succ_eq_append_getElem h2,h,e]
theorem Avy {x y:UInt8} (h:x≠y):¬ (x.toNat=y.toNat):=fun e=>h (UInt8.toNat_inj.1 e)
theorem same (l m:List UInt8) (hl:l.length≤9223372036854775807) (hm:m.length≤9223372036854775807):BC Tryz.prog 10 [slB l,slB m] (fun x=>x=tb (decide (l=m))):=by
 refine Am.toPureV (Afv (by simp) ?_)
 by_cases hlen:l.length=m.length
 case neg =>
  have hne:l≠m:=fun e=>hlen (by rw [e])
  simp -dsimp (disch:=first | assumption | omega) only [↓Ai,Ad,Ag,Ah,eq_self,Nat.reduceEqDiff,↓reduceIte,Nat.reduceAdd,reduceCtorEq,↓NF,decide_eq_false hne]
 simp -dsimp (disch:=first | assumption | omega) only [↓Ai,Ad,Ag,Ah,eq_self,Nat.reduceEqDiff,↓reduceIte,Nat.reduceAdd,reduceCtorEq,↓NF]
 refine Fp (fun n e H=>∃ (k:Nat),n=l.length - k∧k≤l.length∧l.take k=m.take k∧e=[(0,slB l),(1,slB m),(5,i64 (k:Int))]∧H=[]) l.length ?_ ?_
 ·exact ⟨0,by simp,by omega,by simp,rfl,rfl⟩
 ·rintro n e H ⟨k,rfl,hk,ht,rfl,rfl⟩
  by_cases hkl:k<l.length
  ·have hkm:k<m.length:=by omega
   have g1:l[k]?=some l[k]:=by simp [hkl]
   have g2:m[k]?=some m[k]:=by simp [hkm]
   by_cases he:l[k]=m[k]
   ·have hx:=Ak0 ht hkl hkm he
    have he':l[k].toNat=m[k].toNat:=by rw [he]
    simp -dsimp (disch:=first | assumption | omega) only [↓Ai,Ad,Ag,Ah,eq_self,Nat.reduceEqDiff,↓reduceIte,reduceCtorEq,↓NF,g1,g2]
    exact AB (l.length - (k+1)) (by omega) (by simp) ⟨k+1,rfl,by omega,hx,rfl,rfl⟩
   ·have he':=Avy he
    have hne:l≠m:=fun e=>he (by subst e; rfl)
    simp -dsimp (disch:=first | assumption | omega) only [↓Ai,Ad,Ag,Ah,eq_self,Nat.reduceEqDiff,↓reduceIte,reduceCtorEq,↓NF,g1,g2,decide_eq_false hne]
  ·have hke:k=l.length:=by omega
   have heq:l=m:=by rw [hke,List.take_length,hlen,List.take_length] at ht; exact ht
   simp -dsimp (disch:=first | assumption | omega) only [↓Ai,Ad,Ag,Ah,eq_self,Nat.reduceEqDiff,↓reduceIte,reduceCtorEq,↓NF,decide_eq_true heq]
theorem AvH (l:List UInt8) (hl:l.length≤1000000) {H:List Ob} {K:TV→List Ob→Prop} (hk:K (.os 1 H.length 0 [] 0 l.length (l.length+2)) (H++[.obj 0 (.arr (l.length+2) 1 ((l++[71,72]).map by8))])) :
  Am Tryz.prog 17 [slB l] H K:=by
 refine AdL (by simp) ?_
 have c2:((l.length:Int)+2)=((l.length+2:Nat):Int):=by omega
 have b1:((1:Nat):Int)*((l.length+2:Nat):Int)≤281474976710656:=by omega
 have b2:((l.length+2:Nat):Int)≤9223372036854775807:=by omega
 have z:∀ n:Nat,List.replicate n (TV.val (.int .u8 ((0:Nat):Int)))=(List.replicate n (0:UInt8)).map by8:=fun n=>by rw [List.map_replicate]; rfl
 have e1:List.map by8 l++List.drop (min l.length (l.length+2)) (List.replicate (l.length+2) (TV.val (.int .u8 ((0:Nat):Int))))=(l++[0,0]).map by8:=by
  rw [z,←List.map_drop,←List.map_append,Nat.min_eq_left (by omega),List.drop_replicate,show l.length+2 - l.length=2 from by omega]; rfl
 have e2:((l++[0,0]).map by8).set l.length (.val (.int .u8 ((71:Nat):Int)))=(l++[71,0]).map by8:=by
  rw [List.map_append,List.set_append_right _ _ (by simp),List.map_append]; simp
 have e3:((l++[71,0]).map by8).set (l.length+1) (.val (.int .u8 ((72:Nat):Int)))=(l++[71,72]).map by8:=by
  rw [List.map_append,List.set_append_right _ _ (by simp),List.map_append]; simp
 have g1:((l++[0,0]).map by8)[l.length]?=some (by8 0):=by simp
 have g2:((l++[71,0]).map by8)[l.length+1]?=some (by8 0):=by simp
 simp -dsimp (disch:=first | assumption | omega | (simp only [Ae];try omega)) only [↓Ai,Ad,Ag,Ah,eq_self,Nat.reduceEqDiff,↓reduceIte,reduceCtorEq,Nat.reduceLeDiff,↓Aft,e1,e2,e3,g1,g2]
 exact hk
abbrev x85 (l:List UInt8):List UInt8:=l.map (· ^^^ 85)
theorem Aop {c:List UInt8} {k:Nat} (hk:k<c.length):(x85 (c.take k)++c.drop k).set k (c[k] ^^^ 85)=x85 (c.take (k+1))++c.drop (k+1):=by
 have h1:(x85 (c.take k)).length=k:=by simp; omega
 rw [List.set_append_right _ _ (by omega),h1,Nat.sub_self,List.drop_eq_getElem_cons hk,List.set_cons_zero,List.take_succ_eq_append_getElem hk,x85,x85,List.map_append,List.append_assoc]
 rfl
theorem Agb (l:List UInt8) (hl:l.length≤1000000) {H:List Ob} {id ver:Nat} {K:TV→List Ob→Prop} (ho:H[id]?=some (.obj ver (.arr (l.length+2) 1 ((l++[71,72]).map by8))))
  (hk:K (tb true) (H.set id (.obj ver (.arr (l.length+2) 1 ((x85 (l++[71,72])).map by8))))) :
  Am Tryz.prog 19 [.os 1 id ver [] 0 l.length (l.length+2),slB l] H K:=by
 refine Ade (by simp) ?_
 have hid:id<H.length:=(List.getElem?_eq_some_iff.1 ho).1
 have c2:((l.length:Int)+2)=((l.length+2:Nat):Int):=by omega
 have g1:(l++[71,72])[l.length]?=some 71:=by simp
 have g2:(l++[71,72])[l.length+1]?=some 72:=by simp
 have hL:(l++[71,72]).length=l.length+2:=by simp
 have ht:(l++[71,72]).take l.length=l:=by simp
 generalize hc:l++[71,72]=c at *
 simp -dsimp (disch:=first | assumption | omega | (simp only [Ae];try omega)) only [↓Ai,Ad,Ag,Ah,eq_self,Nat.reduceEqDiff,↓reduceIte,Nat.reduceAdd,reduceCtorEq,Nat.reduceLeDiff,↓OD]
 refine (same l l (by omega) (by omega)).lends (args':=[slB l,slB l]) (by simp -dsimp (disch:=first | assumption | omega) only [Ag,Ah,eq_self,↓reduceIte,ho,hL,ht]) ?_
 rintro x rfl
 refine ⟨rfl,?_⟩
 rw [show tb (decide (l=l))=tb true from by simp]
 simp -dsimp (disch:=first | assumption | omega | (simp only [Ae];try omega)) only [↓Ai,Ad,Ag,Ah,eq_self,Nat.reduceEqDiff,UInt8.reduceToNat,↓reduceIte,↓OD,ho,g1,g2]
 ·refine Fp (fun n e H'=>∃ (k:Nat),n=c.length - k∧k≤c.length∧e=[(6,.os 1 id ver [] 0 (l.length+2) (l.length+2)),(7,tb true),(8,i64 (k:Int))]∧H'=H.set id (.obj ver (.arr (l.length+2) 1 ((x85 (c.take k)++c.drop k).map by8)))) c.length ?_ ?_
  ·refine ⟨0,by simp,by omega,rfl,?_⟩
   have e0:x85 (c.take 0)++c.drop 0=c:=by simp
   obtain ⟨h1,h2⟩:=List.getElem?_eq_some_iff.1 ho
   rw [e0,←h2,List.set_getElem_self]
  ·rintro n e H' ⟨k,rfl,hkl,rfl,rfl⟩
   have gs:∀ o,(H.set id o)[id]?=some o:=fun o=>by simp [hid]
   by_cases hkc:k<c.length
   ·have hk2:k<l.length+2:=by omega
    have hlen:(x85 (c.take k)).length=k:=by simp; omega
    have g3:(x85 (c.take k)++c.drop k)[k]?=some c[k]:=by
     rw [List.getElem?_append_right (by omega),hlen,Nat.sub_self,List.getElem?_drop]; simp [hkc]
    have g4:=Aop hkc
    have h85:∀ (t:TypeId) (x:UInt8),Fe t .xor (.int .u8 (x.toNat:Int)) (.int .u8 ((85:Nat):Int))=some (.int .u8 ((x ^^^ 85).toNat:Int)):=fun t x=>AoV (t:=t) (x:=x) (y:=85)
    generalize x85 (c.take k)++c.drop k=r at *
    generalize c[k]=y at *
    simp -dsimp (disch:=first | assumption | omega | (simp only [Ae];try omega)) only [↓Ai,Ad,Ag,Ah,eq_self,Nat.reduceEqDiff,↓reduceIte,↓OD,gs,g3,g4,h85,Alt]
    exact AB (c.length - (k+1)) (by omega) (by simp) ⟨k+1,rfl,by omega,rfl,rfl⟩
   ·have hke:k=c.length:=by omega
    have hk2:¬ k<l.length+2:=by omega
    have e0:x85 (c.take k)++c.drop k=x85 c:=by rw [hke,List.take_length,List.drop_length,List.append_nil]
    have e1:List.drop k c=[]:=by rw [hke,List.drop_length]
    simp -dsimp (disch:=first | assumption | omega | (simp only [Ae];try omega)) only [↓Ai,Ad,Ag,Ah,eq_self,Nat.reduceEqDiff,↓reduceIte,↓OD]
    rw [e1,List.append_nil]
    exact hk
end
section
open Go.RowKit
variable [AP] [CO] [Aq] [Au] [Az] [Fa]
theorem AgS {l:List StD} (h:Nb l) (hn:l.length≤60):(AaR l).length≤70000:=by
 have h1:=Amj (wss:=l.map Aan) fun ws hw=>by obtain ⟨s,hs,rfl⟩:=List.mem_map.1 hw; exact (Ad9 (h.2 s hs)).2
 rw [List.length_map] at h1
 unfold AaR
 rw [List.length_append]
 show _+4≤_
 omega
theorem Afy (b:List UInt8) (hb:b.length≤70000):BC Tryz.prog 25 [slB b] (fun r=>r=tb true):=by
 refine Am.toPureV (Zc (by simp) ?_)
 have htk2:((b++[71,72]).map by8).take b.length=b.map by8:=by rw [List.map_append,List.take_append_of_le_length (by simp),List.take_of_length_le (by simp)]
 have hrd:=Afr b (by omega)
 simp -dsimp (disch:=first | assumption | omega | (simp only [Ae];try omega)) only [↓Ai,Ad,Ag,Ah,eq_self,↓reduceIte,reduceCtorEq,↓XR,↓TI]
 refine Abg (AvH b (by omega) ?_)
 simp -dsimp (disch:=first | assumption | omega | (simp only [Ae];try omega)) only [↓Ai,Ad,Ag,Ah,eq_self,↓reduceIte,reduceCtorEq,↓UU]
 refine (Agl b (by omega)).lends (args':=[slB b]) (by simp -dsimp (disch:=first | assumption | omega | (simp only [Ae];try omega)) only [Ag,Ah,eq_self,↓reduceIte,Nat.reduceAdd,htk2]) fun r hr => ?_
 by_cases h:∃ o,Nb o∧AaR o=b
 ·obtain ⟨l,h1,e⟩:=h
  rw [hr.1 _ h1 e]
  have h500:=h1.1.2
  have r1:=hrd.mono fun r hr=>hr.1 _ h1 e
  simp -dsimp (disch:=first | assumption | omega | (simp only [Ae];try omega)) only [↓Ai,Ad,Ag,Ah,eq_self,Nat.reduceEqDiff,↓reduceIte,reduceCtorEq,↓J4]
  refine Abg (Agb b (by omega) rfl ?_)
  simp -dsimp (disch:=first | assumption | omega | (simp only [Ae];try omega)) only [↓Ai,Ad,Ag,Ah,eq_self,Nat.reduceEqDiff,↓reduceIte,reduceCtorEq,↓KH]
  refine r1.calls rfl fun r hr => ?_
  subst hr
  simp -dsimp (disch:=first | assumption | omega | (simp only [Ae];try omega)) only [↓Ai,Ad,Ag,Ah,eq_self,Nat.reduceEqDiff,↓reduceIte,reduceCtorEq,↓KQ]
  refine Auj.calls rfl fun r hr => ?_
  subst hr
  simp -dsimp (disch:=first | assumption | omega | (simp only [Ae];try omega)) only [↓Ai,Ad,Ag,Ah,eq_self,Nat.reduceEqDiff,↓reduceIte,↓Lj,↓JY]
  refine Fp (fun q e H=>∃ (i:Nat),q=l.length - i∧i≤l.length∧1≤H.length∧e=[(4,.sl 2 (l.map stT)),(7,.sl 2 (l.map stT)),(9,i64 (i:Int))]) l.length ?_ ?_
  ·exact ⟨0,rfl,Nat.zero_le _,by simp,by simp [forget,get]⟩
  rintro q e H ⟨i,rfl,hi,h1l,rfl⟩
  by_cases hil:i<l.length
  case neg=>simp -dsimp (disch:=first | assumption | omega | (simp only [Ae];try omega)) only [↓Ai,Ad,Ag,Ah,eq_self,Nat.reduceEqDiff,↓reduceIte,↓Fh,↓Ko,↓Oi]
  obtain ⟨⟨nm,x⟩,hr⟩:∃ r,l[i]?=some r:=⟨_,List.getElem?_eq_getElem hil⟩
  have hg:(l.map stT)[i]?=some (.agg [ts nm,i64 x]):=by rw [List.getElem?_map,hr]; rfl
  simp -dsimp (disch:=first | assumption | omega | (simp only [Ae];try omega)) only [↓Ai,Ad,Ag,Ah,eq_self,Nat.reduceEqDiff,↓reduceIte,Nat.reduceAdd,hg,↓Fh,↓U9]
  exact AB (l.length - (i+1)) (by omega) h1l ⟨i+1,rfl,by omega,h1l,by simp [forget,get]⟩
 ·have hno:∀ o,Nb o→AaR o≠b:=fun o h1 e=>h ⟨o,h1,e⟩
  obtain ⟨n,hn,hrn⟩:∃ n:Nat,r = .tup [UY,eno (n:Int)]∧BC Tryz.prog 53 [slB b] (fun r=>r = .tup [UY,i64 (n:Int)]):=by
   by_cases hL:∃ ls,AV ls b
   ·obtain ⟨ls,hls⟩:=hL
    exact ⟨111,(hr.2 hno).1 ls hls,hrd.mono fun r h=>(h.2 hno).1 ls hls⟩
   ·have hL':∀ ls,¬ AV ls b:=fun ls h=>hL ⟨ls,h⟩
    exact ⟨110,(hr.2 hno).2 hL',hrd.mono fun r h=>(h.2 hno).2 hL'⟩
  subst hn
  simp -dsimp (disch:=first | assumption | omega | (simp only [Ae];try omega)) only [↓Ai,Ad,Ag,Ah,eq_self,Nat.reduceEqDiff,↓reduceIte,reduceCtorEq,↓J4]
  refine Abg (Agb b (by omega) rfl ?_)
  simp -dsimp (disch:=first | assumption | omega | (simp only [Ae];try omega)) only [↓Ai,Ad,Ag,Ah,eq_self,Nat.reduceEqDiff,↓reduceIte,reduceCtorEq,↓KH]
  refine hrn.calls rfl fun r hr => ?_
  subst hr
  simp -dsimp (disch:=first | assumption | omega | (simp only [Ae];try omega)) only [↓Ai,Ad,Ag,Ah,eq_self,Nat.reduceEqDiff,↓reduceIte,reduceCtorEq,↓KQ]
  refine AxV.calls rfl fun r hr => ?_
  subst hr
  simp -dsimp (disch:=first | assumption | omega | (simp only [Ae];try omega)) only [↓Ai,Ad,Ag,Ah,eq_self,Nat.reduceEqDiff,↓reduceIte,↓Lj,↓JY]
  refine Fp (fun q e H=>1≤H.length∧e=[(4,UY),(7,UY),(9,i64 ((0:Nat):Int))]) 0 ⟨by simp,by simp [forget,get]⟩ ?_
  rintro q e H ⟨_,rfl⟩
  simp -dsimp (disch:=first | assumption | omega | (simp only [Ae];try omega)) only [↓Ai,Ad,Ag,Ah,eq_self,Nat.reduceLT,Nat.reduceEqDiff,↓reduceIte,↓Fh,↓Ko,↓Oi]
theorem AgA (l:List StD) (b:List UInt8) (hl:l.length≤140737488351232) (hr:∀ s∈l,s.1.length≤2000000 ∧ -9223372036854775808≤s.2∧s.2≤9223372036854775807) (hb:b.length≤140737488351232):BC Tryz.prog 6 [.sl 2 (l.map stT),slB b] (fun r=>r=tb true):=by
 refine Am.toPureV (U2 (by simp) ?_)
 simp -dsimp (disch:=first | assumption | omega | (simp only [Ae];try omega)) only [↓Ai,Ad,Ag,Ah,eq_self,Nat.reduceEqDiff,↓reduceIte,Nat.reduceAdd,reduceCtorEq,↓Tz,↓NM]
 by_cases h60:60<l.length
 ·simp -dsimp (disch:=first | assumption | omega | (simp only [Ae];try omega)) only [↓Ai,Ad,Ag,Ah,eq_self,Nat.reduceEqDiff,↓reduceIte,reduceCtorEq,↓Dh]
 by_cases hl2:6000<b.length
 ·simp -dsimp (disch:=first | assumption | omega | (simp only [Ae];try omega)) only [↓Ai,Ad,Ag,Ah,eq_self,Nat.reduceEqDiff,↓reduceIte,reduceCtorEq,↓Dh]
 have hfit:AdN l:=⟨by omega,hr⟩
 have hwo:=(Z7 _ hfit).pure
 have hro:=XB _ hfit
 have hrb:=Afy b (by omega)
 simp -dsimp (disch:=first | assumption | omega | (simp only [Ae];try omega)) only [↓Ai,Ad,Ag,Ah,eq_self,Nat.reduceEqDiff,↓reduceIte,reduceCtorEq,↓NR,↓NL,↓OZ]
 refine Fp (fun q e H=>∃ (i k v:Nat),q=l.length - i∧i≤l.length∧1≤H.length∧H[k]?=some (.obj v (.arr i 2 ((l.take i).map stT)))∧e=[(0,.sl 2 (l.map stT)),(1,slB b),(5,.os 2 k v [] 0 i i),(6,i64 (i:Int))]) l.length ?_ ?_
 ·exact ⟨0,0,0,rfl,Nat.zero_le _,by simp,rfl,by simp [forget,get]⟩
 rintro q e H ⟨i,k,v,rfl,hi,h1l,hHk,rfl⟩
 have hkl:=(List.getElem?_eq_some_iff.1 hHk).1
 have hrl:((l.take i).map stT).length=i:=by rw [List.length_map,List.length_take,Nat.min_eq_left hi]
 have hrt:((l.take i).map stT).take i=(l.take i).map stT:=List.take_of_length_le (by omega)
 by_cases hil:i<l.length
 case pos =>
  obtain ⟨⟨nm,x⟩,hr⟩:∃ r,l[i]?=some r:=⟨_,List.getElem?_eq_getElem hil⟩
  have hg:(l.map stT)[i]?=some (.agg [ts nm,i64 x]):=by rw [List.getElem?_map,hr]; rfl
  have hsn:(l.take (i+1)).map stT=(l.take i).map stT++[.agg [ts nm,i64 x]]:=by rw [List.take_add_one,hr,List.map_append]; rfl
  have hA:∀ T:List Ob,(H++T)[k]?=some (.obj v (.arr i 2 ((l.take i).map stT))):=fun T=>by rw [List.getElem?_append_left hkl]; exact hHk
  simp -dsimp (disch:=first | assumption | omega | (simp only [Ae];try omega)) only [↓Ai,Ad,Ag,Ah,eq_self,Nat.reduceEqDiff,↓reduceIte,Nat.reduceAdd,reduceCtorEq,Nat.reduceLeDiff,hg,hA,hrl,Auh,↓FM,↓OV]
  refine AB (l.length - (i+1)) (by omega) (by simp<;>omega) ⟨i+1,k,v+1,rfl,by omega,by simp<;>omega,?_,by simp [forget,get]⟩
  rw [ga (by simp<;>omega),List.getElem?_set_self hkl,hsn]
 have hi2:i=l.length:=by omega
 rw [List.take_of_length_le (by omega)] at hHk hrt
 subst hi2
 simp -dsimp (disch:=first | assumption | omega | (simp only [Ae];try omega)) only [↓Ai,Ad,Ag,Ah,eq_self,Nat.reduceEqDiff,↓reduceIte,reduceCtorEq,↓FM,↓NT]
 refine hwo.calls rfl fun r hr => ?_
 by_cases hok:Nb l
 ·rw [hr.1 hok]
  have hrx:=Afy _ (AgS hok (by omega))
  have hxl:=AgS hok (by omega)
  simp -dsimp (disch:=first | assumption | omega | (simp only [Ae];try omega)) only [↓Ai,Ad,Ag,Ah,eq_self,Nat.reduceEqDiff,↓reduceIte,reduceCtorEq,↓FH]
  refine hro.lends (args':=[.sl 2 (l.map stT)]) (by simp -dsimp (disch:=first | assumption | omega | (simp only [Ae];try omega)) only [Ag,Ah,eq_self,↓reduceIte,hHk]) fun r hr => ?_
  rw [hr.1 hok]
  generalize AaR l=X at *
  simp -dsimp (disch:=first | assumption | omega | (simp only [Ae];try omega)) only [↓Ai,Ad,Ag,Ah,eq_self,Nat.reduceEqDiff,↓reduceIte,↓FD]
  refine (same X X (by omega) (by omega)).calls rfl fun r hr => ?_
  subst hr
  simp -dsimp (disch:=first | assumption | omega | (simp only [Ae];try omega)) only [↓Ai,Ad,Ag,Ah,eq_self,Nat.reduceEqDiff,↓reduceIte,↓FU]
  refine Auj.calls rfl fun r hr => ?_
  subst hr
  simp -dsimp (disch:=first | assumption | omega | (simp only [Ae];try omega)) only [↓Ai,Ad,Ag,Ah,eq_self,Nat.reduceEqDiff,↓reduceIte,↓FO]
  refine hrb.calls rfl fun r hr => ?_
  subst hr
  simp -dsimp (disch:=first | assumption | omega | (simp only [Ae];try omega)) only [↓Ai,Ad,Ag,Ah,eq_self,Nat.reduceEqDiff,↓reduceIte,↓FN]
  refine hrx.calls rfl fun r hr => ?_
  subst hr
  simp -dsimp (disch:=first | assumption | omega | (simp only [Ae];try omega)) only [↓Ai,Ad,Ag,Ah,eq_self,Nat.reduceEqDiff,↓reduceIte,↓Dh]
 ·rw [hr.2 hok]
  simp -dsimp (disch:=first | assumption | omega | (simp only [Ae];try omega)) only [↓Ai,Ad,Ag,Ah,eq_self,Nat.reduceEqDiff,↓reduceIte,reduceCtorEq,↓FH]
  refine hro.lends (args':=[.sl 2 (l.map stT)]) (by simp -dsimp (disch:=first | assumption | omega | (simp only [Ae];try omega)) only [Ag,Ah,eq_self,↓reduceIte,hHk]) fun r hr => ?_
  rw [hr.2 hok]
  simp -dsimp (disch:=first | assumption | omega | (simp only [Ae];try omega)) only [↓Ai,Ad,Ag,Ah,eq_self,Nat.reduceEqDiff,↓reduceIte,↓FD]
  refine ((same [] [] (by simp) (by simp)).argL (.cons AgU (.cons AgU .nil))).calls rfl fun r hr => ?_
  subst hr
  simp -dsimp (disch:=first | assumption | omega | (simp only [Ae];try omega)) only [↓Ai,Ad,Ag,Ah,eq_self,Nat.reduceEqDiff,↓reduceIte,↓FU]
  refine AxV.calls rfl fun r hr => ?_
  subst hr
  simp -dsimp (disch:=first | assumption | omega | (simp only [Ae];try omega)) only [↓Ai,Ad,Ag,Ah,eq_self,Nat.reduceEqDiff,↓reduceIte,↓FO]
  refine hrb.calls rfl fun r hr => ?_
  subst hr
  simp -dsimp (disch:=first | assumption | omega | (simp only [Ae];try omega)) only [↓Ai,Ad,Ag,Ah,eq_self,Nat.reduceEqDiff,↓reduceIte,reduceCtorEq,↓FN,↓OT,↓Dh]
end
section
open Go.RowKit
variable [AP]
set_option maxRecDepth 100000 in
theorem Aej {R:Nat}:N8 R Tryz.prog 57 (fun s:StD=>stT s) (fun s=>s.1.length≤R ∧ -9223372036854775808≤s.2∧s.2≤9223372036854775807):=by
 refine PL (Adv Tryz.underlying57 (by kernel_rfl) (Aaf (off:=0) (n:=1) rfl (by kernel_rfl) (Ada Tryz.underlying9) (Aaf (off:=1) (n:=1) rfl (by kernel_rfl) (Ah5 Tryz.underlying33) Af0))) fun x h => ?_
 obtain ⟨n,i,u⟩:=x
 exact ⟨(n,i),rfl,h.1,h.2.1⟩
set_option maxRecDepth 100000 in
theorem AbJ {R:Nat}:N8 R Tryz.prog 54 (fun l:List StD => .sl 2 (l.map stT)) (fun l=>l.length≤140737488351232∧∀ s∈l,s.1.length≤R ∧ -9223372036854775808≤s.2∧s.2≤9223372036854775807):=by
 refine PL (Aac Tryz.underlying54 (k:=2) (by kernel_rfl) (B:=24) (by kernel_rfl) Aej (fun r h=>by unfold stT; simp [AL,Cc]) (by omega)) fun x h => ?_
 exact ⟨x,rfl,by have:=h.2.1; omega,h.1⟩
end
end Go.Proofs.YtnikbdnebdmmiaaGreatDoor
namespace Go.Proofs.YtnikbdnebdmmiaaGreatDoor.wireStatuses
open Go.ChangeShapes Go.WideShapes Go.ChangeAt Go.RowKit
theorem own:ownKnob Tryz.prog.godebug=none:=by kernel_rfl
mutual
def AqQ:DataW Unit→List Value
 | .lit (.int k n)=>[.int k n]
 | .lit (.string l)=>[.string ⟨l.toArray⟩]
 | .agg l=>ArM l
 | _=>[]
def ArM:List (DataW Unit)→List Value
 | []=>[]
 | d::l=>AqQ d++ArM l
end
abbrev giM (t0:TypeId) (a0:Addr) (t1:TypeId) (a1:Addr) (m:Int):AP:=⟨[(0,CY),(7,Bf),(8,Be),(2,AO),(4,GV.one (.iface t0 (.pointer (some a0)))),(3,GV.one (.iface t1 (.pointer (some a1)))),(1,GV.one (.int .i64 m))],by kernel_rfl⟩
theorem XO (t0:TypeId) (a0:Addr) (t1:TypeId) (a1:Addr) (m:Int):@CO (giM t0 a0 t1 a1 m):=@CO.mk (giM t0 a0 t1 a1 m) (by kernel_rfl)
theorem OU (t0:TypeId) (a0:Addr) (t1:TypeId) (a1:Addr) (m:Int):@DJ (giM t0 a0 t1 a1 m):=@DJ.mk (giM t0 a0 t1 a1 m) (by kernel_rfl)
theorem OY (t0:TypeId) (a0:Addr) (t1:TypeId) (a1:Addr) (m:Int):@DF (giM t0 a0 t1 a1 m):=@DF.mk (giM t0 a0 t1 a1 m) (by kernel_rfl)
theorem Ll (t0:TypeId) (a0:Addr) (t1:TypeId) (a1:Addr) (m:Int):@Aq (giM t0 a0 t1 a1 m):=@Aq.mk (giM t0 a0 t1 a1 m) (by kernel_rfl)
theorem XN (t0:TypeId) (a0:Addr) (t1:TypeId) (a1:Addr) (m:Int):@Az (giM t0 a0 t1 a1 m):=@Az.mk (giM t0 a0 t1 a1 m) ⟨t0,a0,by kernel_rfl⟩
theorem Xa (t0:TypeId) (a0:Addr) (t1:TypeId) (a1:Addr) (m:Int):@Au (giM t0 a0 t1 a1 m):=@Au.mk (giM t0 a0 t1 a1 m) ⟨t1,a1,by kernel_rfl⟩
theorem et:Tryz.prog.globalNamed "errors.errorType" = some 0:=by kernel_rfl
theorem rt:(Tryz.prog.cutTypes.find? (·.1 == "internal/reflectlite.rtype")).map (·.2)=some 170:=by kernel_rfl
theorem Atw:((List.range Tryz.prog.types.size).filter fun t=>Tryz.prog.rowNamed t [101,114,114,111,114])=[25]:=by kernel_rfl
theorem Ab9 {W:World} (h:handlesMet Tryz.prog [("errors.errorType", Rows.laid_errors_errorType)] W):∃ t fr,W.heap[0]?=some (.cells CY.cells.toArray t fr):=by
 obtain ⟨name,u,ty,e1,e2,e3,e4,e5⟩:=h _ (List.mem_singleton.2 rfl)
 have en:name=[101,114,114,111,114]:=(Option.some.inj e1).symm
 subst en
 obtain rfl:=Option.some.inj (rt.symm.trans e2)
 have hm:ty∈(List.range Tryz.prog.types.size).filter fun t=>Tryz.prog.rowNamed t [101,114,114,111,114]:=List.mem_filter.2 ⟨List.mem_range.2 e3,e4⟩
 rw [Atw] at hm
 obtain rfl:=List.mem_singleton.1 hm
 have hh:typeHandle Tryz.prog 25 = .pointer (some ⟨9,25,none⟩):=by kernel_rfl
 rw [hh] at e5
 exact Adj et e5
def NQ:List (DataW Unit):=[.lit (.int .u8 0),.lit (.int .u8 1),.lit (.int .u8 28),.lit (.int .u8 2),.lit (.int .u8 29),.lit (.int .u8 14),.lit (.int .u8 24),.lit (.int .u8 3),.lit (.int .u8 30),.lit (.int .u8 22),.lit (.int .u8 20),.lit (.int .u8 15),.lit (.int .u8 25),.lit (.int .u8 17),.lit (.int .u8 4),.lit (.int .u8 8),.lit (.int .u8 31),.lit (.int .u8 27),.lit (.int .u8 13),.lit (.int .u8 23),.lit (.int .u8 21),.lit (.int .u8 19),.lit (.int .u8 16),.lit (.int .u8 7),.lit (.int .u8 26),.lit (.int .u8 12),.lit (.int .u8 18),.lit (.int .u8 6),.lit (.int .u8 11),.lit (.int .u8 5),.lit (.int .u8 10),.lit (.int .u8 9)]
theorem NV {W:World} (h:laidMet Tryz.prog [("math/bits.deBruijn32tab", Rows.laid_math_bits_deBruijn32tab),("math/bits.deBruijn64tab", Rows.laid_math_bits_deBruijn64tab),("internal/strconv.uint64pow10", Rows.laid_internal_strconv_uint64pow10),("unicode/utf8.acceptRanges", Rows.laid_unicode_utf8_acceptRanges),("strconv.ErrRange", Rows.laid_strconv_ErrRange),("strconv.ErrSyntax", Rows.laid_strconv_ErrSyntax),("unicode/utf8.first", Rows.laid_unicode_utf8_first)] W):∃ t fr,W.heap[7]?=some (.cells Bf.cells.toArray t fr) :=
 AdU (t:=(Tryz.prog.globals[7]?).elim 0 (·.type)) (e:=match Tryz.prog.underlying ((Tryz.prog.globals[7]?).elim 0 (·.type)) with | some (.array _ e)=>e | _=>0) (n:=Bf.cells.length) h (List.mem_of_getElem? (i:=0) (show [("math/bits.deBruijn32tab", Rows.laid_math_bits_deBruijn32tab),("math/bits.deBruijn64tab", Rows.laid_math_bits_deBruijn64tab),("internal/strconv.uint64pow10", Rows.laid_internal_strconv_uint64pow10),("unicode/utf8.acceptRanges", Rows.laid_unicode_utf8_acceptRanges),("strconv.ErrRange", Rows.laid_strconv_ErrRange),("strconv.ErrSyntax", Rows.laid_strconv_ErrSyntax),("unicode/utf8.first", Rows.laid_unicode_utf8_first)][0]?=some ("math/bits.deBruijn32tab", DataW.agg NQ) by kernel_rfl)) (by kernel_rfl) (by kernel_rfl) (by kernel_rfl) (by kernel_rfl) (by kernel_rfl) (by kernel_rfl) (by kernel_rfl)
def NS:List (DataW Unit):=[.lit (.int .u8 0),.lit (.int .u8 1),.lit (.int .u8 56),.lit (.int .u8 2),.lit (.int .u8 57),.lit (.int .u8 49),.lit (.int .u8 28),.lit (.int .u8 3),.lit (.int .u8 61),.lit (.int .u8 58),.lit (.int .u8 42),.lit (.int .u8 50),.lit (.int .u8 38),.lit (.int .u8 29),.lit (.int .u8 17),.lit (.int .u8 4),.lit (.int .u8 62),.lit (.int .u8 47),.lit (.int .u8 59),.lit (.int .u8 36),.lit (.int .u8 45),.lit (.int .u8 43),.lit (.int .u8 51),.lit (.int .u8 22),.lit (.int .u8 53),.lit (.int .u8 39),.lit (.int .u8 33),.lit (.int .u8 30),.lit (.int .u8 24),.lit (.int .u8 18),.lit (.int .u8 12),.lit (.int .u8 5),.lit (.int .u8 63),.lit (.int .u8 55),.lit (.int .u8 48),.lit (.int .u8 27),.lit (.int .u8 60),.lit (.int .u8 41),.lit (.int .u8 37),.lit (.int .u8 16),.lit (.int .u8 46),.lit (.int .u8 35),.lit (.int .u8 44),.lit (.int .u8 21),.lit (.int .u8 52),.lit (.int .u8 32),.lit (.int .u8 23),.lit (.int .u8 11),.lit (.int .u8 54),.lit (.int .u8 26),.lit (.int .u8 40),.lit (.int .u8 15),.lit (.int .u8 34),.lit (.int .u8 20),.lit (.int .u8 31),.lit (.int .u8 10),.lit (.int .u8 25),.lit (.int .u8 14),.lit (.int .u8 19),.lit (.int .u8 9),.lit (.int .u8 13),.lit (.int .u8 8),.lit (.int .u8 7),.lit (.int .u8 6)]
theorem NY {W:World} (h:laidMet Tryz.prog [("math/bits.deBruijn32tab", Rows.laid_math_bits_deBruijn32tab),("math/bits.deBruijn64tab", Rows.laid_math_bits_deBruijn64tab),("internal/strconv.uint64pow10", Rows.laid_internal_strconv_uint64pow10),("unicode/utf8.acceptRanges", Rows.laid_unicode_utf8_acceptRanges),("strconv.ErrRange", Rows.laid_strconv_ErrRange),("strconv.ErrSyntax", Rows.laid_strconv_ErrSyntax),("unicode/utf8.first", Rows.laid_unicode_utf8_first)] W):∃ t fr,W.heap[8]?=some (.cells Be.cells.toArray t fr) :=
 AdU (t:=(Tryz.prog.globals[8]?).elim 0 (·.type)) (e:=match Tryz.prog.underlying ((Tryz.prog.globals[8]?).elim 0 (·.type)) with | some (.array _ e)=>e | _=>0) (n:=Be.cells.length) h (List.mem_of_getElem? (i:=1) (show [("math/bits.deBruijn32tab", Rows.laid_math_bits_deBruijn32tab),("math/bits.deBruijn64tab", Rows.laid_math_bits_deBruijn64tab),("internal/strconv.uint64pow10", Rows.laid_internal_strconv_uint64pow10),("unicode/utf8.acceptRanges", Rows.laid_unicode_utf8_acceptRanges),("strconv.ErrRange", Rows.laid_strconv_ErrRange),("strconv.ErrSyntax", Rows.laid_strconv_ErrSyntax),("unicode/utf8.first", Rows.laid_unicode_utf8_first)][1]?=some ("math/bits.deBruijn64tab", DataW.agg NS) by kernel_rfl)) (by kernel_rfl) (by kernel_rfl) (by kernel_rfl) (by kernel_rfl) (by kernel_rfl) (by kernel_rfl) (by kernel_rfl)
def JU:List (DataW Unit):=[.lit (.int .u64 1),.lit (.int .u64 10),.lit (.int .u64 100),.lit (.int .u64 1000),.lit (.int .u64 10000),.lit (.int .u64 100000),.lit (.int .u64 1000000),.lit (.int .u64 10000000),.lit (.int .u64 100000000),.lit (.int .u64 1000000000),.lit (.int .u64 10000000000),.lit (.int .u64 100000000000),.lit (.int .u64 1000000000000),.lit (.int .u64 10000000000000),.lit (.int .u64 100000000000000),.lit (.int .u64 1000000000000000),.lit (.int .u64 10000000000000000),.lit (.int .u64 100000000000000000),.lit (.int .u64 1000000000000000000),.lit (.int .u64 10000000000000000000)]
theorem JS {W:World} (h:laidMet Tryz.prog [("math/bits.deBruijn32tab", Rows.laid_math_bits_deBruijn32tab),("math/bits.deBruijn64tab", Rows.laid_math_bits_deBruijn64tab),("internal/strconv.uint64pow10", Rows.laid_internal_strconv_uint64pow10),("unicode/utf8.acceptRanges", Rows.laid_unicode_utf8_acceptRanges),("strconv.ErrRange", Rows.laid_strconv_ErrRange),("strconv.ErrSyntax", Rows.laid_strconv_ErrSyntax),("unicode/utf8.first", Rows.laid_unicode_utf8_first)] W):∃ t fr,W.heap[2]?=some (.cells AO.cells.toArray t fr) :=
 AdU (t:=(Tryz.prog.globals[2]?).elim 0 (·.type)) (e:=match Tryz.prog.underlying ((Tryz.prog.globals[2]?).elim 0 (·.type)) with | some (.array _ e)=>e | _=>0) (n:=AO.cells.length) h (List.mem_of_getElem? (i:=2) (show [("math/bits.deBruijn32tab", Rows.laid_math_bits_deBruijn32tab),("math/bits.deBruijn64tab", Rows.laid_math_bits_deBruijn64tab),("internal/strconv.uint64pow10", Rows.laid_internal_strconv_uint64pow10),("unicode/utf8.acceptRanges", Rows.laid_unicode_utf8_acceptRanges),("strconv.ErrRange", Rows.laid_strconv_ErrRange),("strconv.ErrSyntax", Rows.laid_strconv_ErrSyntax),("unicode/utf8.first", Rows.laid_unicode_utf8_first)][2]?=some ("internal/strconv.uint64pow10", DataW.agg JU) by kernel_rfl)) (by kernel_rfl) (by kernel_rfl) (by kernel_rfl) (by kernel_rfl) (by kernel_rfl) (by kernel_rfl) (by kernel_rfl)
theorem AxX : "*" ++ "errors.errorString" = "*errors.errorString" := by decide
theorem AoO (u:TypeId) (h:Tryz.prog.typeName? 3 u=some "*errors.errorString"):u=232 :=
 typeName_ptr_named (nm := "errors.errorString") (by rw [AxX]; kernel_rfl) (by kernel_rfl) (by decide) u (by rw [AxX]; exact h)
theorem Vw {W:World} (h:laidMet Tryz.prog [("math/bits.deBruijn32tab", Rows.laid_math_bits_deBruijn32tab),("math/bits.deBruijn64tab", Rows.laid_math_bits_deBruijn64tab),("internal/strconv.uint64pow10", Rows.laid_internal_strconv_uint64pow10),("unicode/utf8.acceptRanges", Rows.laid_unicode_utf8_acceptRanges),("strconv.ErrRange", Rows.laid_strconv_ErrRange),("strconv.ErrSyntax", Rows.laid_strconv_ErrSyntax),("unicode/utf8.first", Rows.laid_unicode_utf8_first)] W):∃ (a:Addr) (t:TypeId) (fr:Nat×Nat),W.heap[4]?=some (.cells #[.iface 232 (.pointer (some a))] t fr):=by
 have h2:laidMet Tryz.prog (("strconv.ErrRange", DataW.iface "*errors.errorString" (.ptr (.agg [.lit (.string [118,97,108,117,101,32,111,117,116,32,111,102,32,114,97,110,103,101])])))::[("strconv.ErrSyntax", Rows.laid_strconv_ErrSyntax),("unicode/utf8.first", Rows.laid_unicode_utf8_first)]) W:=h.tail.tail.tail.tail
 have hg:Tryz.prog.globalNamed "strconv.ErrRange" = some 4:=by kernel_rfl
 obtain ⟨a,s,hv,_⟩:=laid_sentinel h2 hg (show (Tryz.prog.globals[4]?).map (·.type)=some 25 by kernel_rfl) Tryz.underlying25 AoO Tryz.underlying232 Tryz.underlying234 rfl rfl Tryz.underlying9 (by kernel_rfl) (by kernel_rfl)
 exact ⟨a,Adj hg hv⟩
theorem Uy {W:World} (h:laidMet Tryz.prog [("math/bits.deBruijn32tab", Rows.laid_math_bits_deBruijn32tab),("math/bits.deBruijn64tab", Rows.laid_math_bits_deBruijn64tab),("internal/strconv.uint64pow10", Rows.laid_internal_strconv_uint64pow10),("unicode/utf8.acceptRanges", Rows.laid_unicode_utf8_acceptRanges),("strconv.ErrRange", Rows.laid_strconv_ErrRange),("strconv.ErrSyntax", Rows.laid_strconv_ErrSyntax),("unicode/utf8.first", Rows.laid_unicode_utf8_first)] W):∃ (a:Addr) (t:TypeId) (fr:Nat×Nat),W.heap[3]?=some (.cells #[.iface 232 (.pointer (some a))] t fr):=by
 have h2:laidMet Tryz.prog (("strconv.ErrSyntax", DataW.iface "*errors.errorString" (.ptr (.agg [.lit (.string [105,110,118,97,108,105,100,32,115,121,110,116,97,120])])))::[("unicode/utf8.first", Rows.laid_unicode_utf8_first)]) W:=h.tail.tail.tail.tail.tail
 have hg:Tryz.prog.globalNamed "strconv.ErrSyntax" = some 3:=by kernel_rfl
 obtain ⟨a,s,hv,_⟩:=laid_sentinel h2 hg (show (Tryz.prog.globals[3]?).map (·.type)=some 25 by kernel_rfl) Tryz.underlying25 AoO Tryz.underlying232 Tryz.underlying234 rfl rfl Tryz.underlying9 (by kernel_rfl) (by kernel_rfl)
 exact ⟨a,Adj hg hv⟩
theorem Afp {W:World} (h:laidMetH Tryz.prog Rows.wireStatusesUptoRow.laid W) (hsh:W.ShapedOpen Tryz.prog):∃ t0 a0 t1 a1 m,@Jp (giM t0 a0 t1 a1 m) (fun b=>b<W.heap.size) W:=by
 have h':laidMet Tryz.prog [("math/bits.deBruijn32tab", Rows.laid_math_bits_deBruijn32tab),("math/bits.deBruijn64tab", Rows.laid_math_bits_deBruijn64tab),("internal/strconv.uint64pow10", Rows.laid_internal_strconv_uint64pow10),("unicode/utf8.acceptRanges", Rows.laid_unicode_utf8_acceptRanges),("strconv.ErrRange", Rows.laid_strconv_ErrRange),("strconv.ErrSyntax", Rows.laid_strconv_ErrSyntax),("unicode/utf8.first", Rows.laid_unicode_utf8_first)] W∧handlesMet Tryz.prog [("errors.errorType", Rows.laid_errors_errorType)] W:=h
 obtain ⟨a0,e0⟩:=Vw h'.1
 obtain ⟨a1,e1⟩:=Uy h'.1
 obtain ⟨m,tt,fr,hh⟩:=AdF (k := .i64) (zero := #[.int .i64 0]) (g:=1) (t:=3) hsh (of_decide_eq_true (by kernel_rfl)) (by kernel_rfl) rfl (by kernel_rfl) (by kernel_rfl) Tryz.underlying3
 refine ⟨232,a0,232,a1,m,?_⟩
 letI:=giM 232 a0 232 a1 m
 intro g x hx
 have hm:=Aig hx
 have hm':(g,x)∈([(0,CY),(7,Bf),(8,Be),(2,AO),(4,GV.one (.iface 232 (.pointer (some a0)))),(3,GV.one (.iface 232 (.pointer (some a1)))),(1,GV.one (.int .i64 m))]:List (Nat×GV)):=hm
 simp only [List.mem_cons,List.mem_nil_iff,or_false,Prod.mk.injEq] at hm'
 have key:∃ t fr,W.heap[g]?=some (.cells x.cells.toArray t fr):=by
  rcases hm' with ⟨rfl,rfl⟩ | ⟨rfl,rfl⟩ | ⟨rfl,rfl⟩ | ⟨rfl,rfl⟩ | ⟨rfl,rfl⟩ | ⟨rfl,rfl⟩ | ⟨rfl,rfl⟩
  ·exact Ab9 h'.2
  ·exact NV h'.1
  ·exact NY h'.1
  ·exact JS h'.1
  ·exact e0
  ·exact e1
  ·exact ⟨tt,fr,hh⟩
 obtain ⟨t,fr,hk⟩:=key
 exact ⟨(Array.getElem?_eq_some_iff.1 hk).1,t,fr,hk⟩
noncomputable def AbQ (os:Os):World :=
 let w0:=World.holding Tryz.prog os ⟨#[],#[.slice none 0 0,.slice none 0 0],[]⟩
 let w1:={ w0 with heap:=w0.heap.modify 0 fun
   | .cells _ t frozen => .cells CY.cells.toArray t frozen
   | o=>o }
 let w2:={ w1 with heap:=w1.heap.modify 7 fun
   | .cells _ t frozen => .cells Bf.cells.toArray t frozen
   | o=>o }
 let w3:={ w2 with heap:=w2.heap.modify 8 fun
   | .cells _ t frozen => .cells Be.cells.toArray t frozen
   | o=>o }
 let w4:={ w3 with heap:=w3.heap.modify 2 fun
   | .cells _ t frozen => .cells AO.cells.toArray t frozen
   | o=>o }
 let w5:={ w4 with heap:=w4.heap.modify 6 fun
   | .cells _ t frozen => .cells (AqQ Rows.laid_unicode_utf8_acceptRanges).toArray t frozen
   | o=>o }
 let w6:={ w5 with heap:=w5.heap.modify 5 fun
   | .cells _ t frozen => .cells (AqQ Rows.laid_unicode_utf8_first).toArray t frozen
   | o=>o }
 let w7:={ w6 with heap:=(w6.heap.push (.cells #[.string ⟨([118,97,108,117,101,32,111,117,116,32,111,102,32,114,97,110,103,101]:List UInt8).toArray⟩] 234 (0,0))).modify 4 fun
   | .cells _ t frozen => .cells #[.iface 232 (.pointer (some ⟨w6.heap.size,0,none⟩))] t frozen
   | o=>o }
 let w8:={ w7 with heap:=(w7.heap.push (.cells #[.string ⟨([105,110,118,97,108,105,100,32,115,121,110,116,97,120]:List UInt8).toArray⟩] 234 (0,0))).modify 3 fun
   | .cells _ t frozen => .cells #[.iface 232 (.pointer (some ⟨w7.heap.size,0,none⟩))] t frozen
   | o=>o }
 w8
theorem Adz (os:Os) (args:Array Value):laidMetH Tryz.prog Rows.wireStatusesUptoRow.laid ((AbQ os).forCall (fun _ _=>0) ⟨#[],args,[]⟩).memory :=
 laidMetH_of_parts (laidMet_of_run' 8 (by kernel_rfl) (by kernel_rfl)) (by kernel_rfl)
theorem reads (os:Os) {H:Type} (enc:TypeId×Value→H):∃ places,DataW.whole enc Tryz.prog ((AbQ os).forCall (fun _ _=>0) ⟨#[],#[.slice none 0 0,.slice none 0 0],[]⟩).memory Tryz.f6.params.toList Rows.wireStatusesSpec.vars false (#[.slice none 0 0,.slice none 0 0]:Array Value).toList 8=some ([.nil,.nil],[],places):=⟨[],by kernel_rfl⟩
mutual
theorem Ajz {H:Type}:∀ (d:DataW H) (n:Nat),n∈AfG d→n≤Rows.uptoBulk d
 | .lit l,n,h=>by
  cases l<;>first
   | (simp [AfG] at h; done)
   | (simp only [AfG,List.mem_singleton] at h; subst h; simp only [Rows.uptoBulk]; omega)
 | .slice el sp,n,h=>by
  rw [AfG] at h
  have:=Vd el n h
  simp only [Rows.uptoBulk]; omega
 | .agg ps,n,h=>by
  rw [AfG] at h
  have:=Vd ps n h
  simp only [Rows.uptoBulk]; omega
 | .nil,n,h=>by simp [AfG] at h
 | .ptr _,n,h=>by simp [AfG] at h
 | .iface _ _,n,h=>by simp [AfG] at h
 | .map _,n,h=>by simp [AfG] at h
 | .held _,n,h=>by simp [AfG] at h
theorem Vd {H:Type}:∀ (ds:List (DataW H)) (n:Nat),n∈X5 ds→n≤Rows.uptoBulkAll ds
 | [],n,h=>by simp [X5] at h
 | d::ds,n,h=>by
  rw [X5,List.mem_append] at h
  simp only [Rows.uptoBulkAll]
  rcases h with h | h
  ·have:=Ajz d n h; omega
  ·have:=Vd ds n h; omega
end
theorem AmT {H:Type} {ds:List (DataW H)} (h:Rows.uptoSmall H (ds++[])=true):(X5 ds).all (· ≤ 1048576)=true:=by
 rw [List.append_nil] at h
 have h1:Rows.uptoBulkAll ds≤1048576:=of_decide_eq_true h
 exact List.all_eq_true.2 fun n hn=>decide_eq_true (Nat.le_trans (Vd ds n hn) h1)
theorem Ani:laidOutB Tryz.prog=true∧mapsRowed Tryz.prog=true :=
 have H:=ClosedOfChecked.allSpec_of Tryz.checked.wellFormed (by kernel_rfl:Tryz.checked.prog.types=Tryz.checked.src.types)
 ⟨ClosedOfChecked.laidOutB_of H (by kernel_rfl),ClosedOfChecked.mapsRowed_of H⟩
theorem FY {a b:Bool} (h:a=true) (k:b=true):(a && b)=true:=by rw [h,k]; rfl
theorem Axt:(Rows.wireStatusesUptoRow.wf (OpenSpec.ofChange (Rows.OpenSpec.upto Rows.wireStatusesSpec).bare))=true:=by kernel_rfl
theorem AwA:(laidOutB Tryz.prog)=true:=Ani.1
theorem Awl:(mapsRowed Tryz.prog)=true:=Ani.2
theorem Axx:(Tryz.f6.params.all (Tryz.prog.readableRec ·))=true:=by kernel_rfl
theorem Awi:(namedTie Tryz.prog Rows.wireStatusesUptoRow.named (Rows.OpenSpec.upto Rows.wireStatusesSpec).bare.vars)=true:=by kernel_rfl
theorem Awf:((Rows.wireStatusesUptoRow.stops == []))=true:=by kernel_rfl
theorem Awk:((Tryz.prog.stops == []))=true:=by kernel_rfl
theorem AvV:((Rows.wireStatusesUptoRow.knobs == []))=true:=by kernel_rfl
theorem AvL:((Tryz.prog.stopKnobs == []))=true:=by kernel_rfl
theorem AvD:((Rows.wireStatusesUptoRow.inPlace == Tryz.prog.inPlace 6))=true:=by kernel_rfl
theorem Atx:((Rows.wireStatusesUptoRow.unfollowed == Tryz.prog.unfollowed 6))=true:=by kernel_rfl
theorem At5:((Rows.wireStatusesUptoRow.recurses == Tryz.prog.recurses 6))=true:=by kernel_rfl
theorem Aue:((Rows.wireStatusesUptoRow.named == Tryz.prog.varsNamed 6))=true:=by kernel_rfl
theorem Ar2:((Rows.wireStatusesUptoRow.maps == (Tryz.f6.params.toList++(Rows.OpenSpec.upto Rows.wireStatusesSpec).bare.plain.varTypes Tryz.prog).any (Tryz.prog.mapsRec ·)))=true:=by kernel_rfl
theorem Asx:((Rows.wireStatusesUptoRow.ifaces == (Tryz.f6.params.toList++(Rows.OpenSpec.upto Rows.wireStatusesSpec).bare.plain.varTypes Tryz.prog).any (Tryz.prog.ifacesRec ·)))=true:=by kernel_rfl
theorem AsX:((Rows.wireStatusesUptoRow.mapsOut == Tryz.prog.mapsAmong Tryz.f6.resultTypes.toList))=true:=by kernel_rfl
theorem AtA:((Rows.wireStatusesUptoRow.loops == (Tryz.f6.params.toList++(Rows.OpenSpec.upto Rows.wireStatusesSpec).bare.plain.varTypes Tryz.prog).any (Tryz.prog.loopsFrom ·)))=true:=by kernel_rfl
theorem Asf:((Rows.wireStatusesUptoRow.wideKeys == (Tryz.f6.params.toList++(Rows.OpenSpec.upto Rows.wireStatusesSpec).bare.plain.varTypes Tryz.prog++Tryz.f6.resultTypes.toList).any (Tryz.prog.wideKeysFrom ·)))=true:=by kernel_rfl
theorem Ato:((Rows.OpenSpec.upto Rows.wireStatusesSpec).bare.vars.all (Tryz.prog.varReadable ·))=true:=by kernel_rfl
theorem Atz:(Tryz.f6.resultTypes.all (fun t=>Tryz.prog.readableRec t && decide (t<Tryz.prog.types.size)))=true:=by kernel_rfl
theorem Ase:((Rows.wireStatusesUptoRow.ifacesOut == Tryz.f6.resultTypes.toList.any (Tryz.prog.ifacesRec ·)))=true:=by kernel_rfl
theorem As5:((Rows.wireStatusesUptoRow.loopsOut == Tryz.f6.resultTypes.toList.any (Tryz.prog.loopsFrom ·)))=true:=by kernel_rfl
theorem AtU:((Rows.wireStatusesUptoRow.plainKeys == Tryz.prog.plainKeys))=true:=by kernel_rfl
theorem Atv:(Rows.wireStatusesUptoRow.shortTexts.isNone)=true:=by kernel_rfl
theorem Ar0:(Tryz.prog.stopsHeard)=true:=by kernel_rfl
theorem Auo:(Tryz.prog.mayEnter)=true:=by kernel_rfl
theorem Asa:((Rows.wireStatusesUptoRow.lifted == Tryz.prog.liftsFinal))=true:=by kernel_rfl
theorem AuJ:((Tryz.prog.make == some Rows.wireStatusesUptoRow.make))=true:=by kernel_rfl
theorem Asg:((Rows.wireStatusesUptoRow.kinds == (if Rows.wireStatusesUptoRow.domain.isEmpty then [] else Tryz.f6.params.toList.map fun t=>match Tryz.prog.underlying t with | some (.int k)=>some k | _=>none)))=true:=by kernel_rfl
theorem ArT:((Rows.wireStatusesUptoRow.pinned == Rows.wireStatusesUptoRow.pinnedBy))=true:=by kernel_rfl
theorem AtX:((Rows.wireStatusesUptoRow.veiled == (Tryz.f6.params.toList++(Rows.OpenSpec.upto Rows.wireStatusesSpec).bare.plain.varTypes Tryz.prog++Tryz.f6.resultTypes.toList).any (Tryz.prog.veiledRec ·)))=true:=by kernel_rfl
theorem At6:(Rows.wireStatusesUptoRow.veiledFits Tryz.prog Tryz.f6.params.toList (Tryz.f6.params.toList++(Rows.OpenSpec.upto Rows.wireStatusesSpec).bare.plain.varTypes Tryz.prog++Tryz.f6.resultTypes.toList))=true:=by kernel_rfl
set_option maxRecDepth 100000 in
theorem An4:((Rows.wireStatusesUptoRow.wf (OpenSpec.ofChange (Rows.OpenSpec.upto Rows.wireStatusesSpec).bare)) && (laidOutB Tryz.prog) && (mapsRowed Tryz.prog) && (Tryz.f6.params.all (Tryz.prog.readableRec ·)) && (namedTie Tryz.prog Rows.wireStatusesUptoRow.named (Rows.OpenSpec.upto Rows.wireStatusesSpec).bare.vars) && ((Rows.wireStatusesUptoRow.stops == [])) && ((Tryz.prog.stops == [])) && ((Rows.wireStatusesUptoRow.knobs == [])) && ((Tryz.prog.stopKnobs == [])) && ((Rows.wireStatusesUptoRow.inPlace == Tryz.prog.inPlace 6)) && ((Rows.wireStatusesUptoRow.unfollowed == Tryz.prog.unfollowed 6)) && ((Rows.wireStatusesUptoRow.recurses == Tryz.prog.recurses 6)) && ((Rows.wireStatusesUptoRow.named == Tryz.prog.varsNamed 6)) && ((Rows.wireStatusesUptoRow.maps == (Tryz.f6.params.toList++(Rows.OpenSpec.upto Rows.wireStatusesSpec).bare.plain.varTypes Tryz.prog).any (Tryz.prog.mapsRec ·))) && ((Rows.wireStatusesUptoRow.ifaces == (Tryz.f6.params.toList++(Rows.OpenSpec.upto Rows.wireStatusesSpec).bare.plain.varTypes Tryz.prog).any (Tryz.prog.ifacesRec ·))) && ((Rows.wireStatusesUptoRow.mapsOut == Tryz.prog.mapsAmong Tryz.f6.resultTypes.toList)) && ((Rows.wireStatusesUptoRow.loops == (Tryz.f6.params.toList++(Rows.OpenSpec.upto Rows.wireStatusesSpec).bare.plain.varTypes Tryz.prog).any (Tryz.prog.loopsFrom ·))) && ((Rows.wireStatusesUptoRow.wideKeys == (Tryz.f6.params.toList++(Rows.OpenSpec.upto Rows.wireStatusesSpec).bare.plain.varTypes Tryz.prog++Tryz.f6.resultTypes.toList).any (Tryz.prog.wideKeysFrom ·))) && ((Rows.OpenSpec.upto Rows.wireStatusesSpec).bare.vars.all (Tryz.prog.varReadable ·)) && (Tryz.f6.resultTypes.all (fun t=>Tryz.prog.readableRec t && decide (t<Tryz.prog.types.size))) && ((Rows.wireStatusesUptoRow.ifacesOut == Tryz.f6.resultTypes.toList.any (Tryz.prog.ifacesRec ·))) && ((Rows.wireStatusesUptoRow.loopsOut == Tryz.f6.resultTypes.toList.any (Tryz.prog.loopsFrom ·))) && ((Rows.wireStatusesUptoRow.plainKeys == Tryz.prog.plainKeys)) && (Rows.wireStatusesUptoRow.shortTexts.isNone) && (Tryz.prog.stopsHeard) && (Tryz.prog.mayEnter) && ((Rows.wireStatusesUptoRow.lifted == Tryz.prog.liftsFinal)) && ((Tryz.prog.make == some Rows.wireStatusesUptoRow.make)) && ((Rows.wireStatusesUptoRow.kinds == (if Rows.wireStatusesUptoRow.domain.isEmpty then [] else Tryz.f6.params.toList.map fun t=>match Tryz.prog.underlying t with | some (.int k)=>some k | _=>none))) && ((Rows.wireStatusesUptoRow.pinned == Rows.wireStatusesUptoRow.pinnedBy)) && ((Rows.wireStatusesUptoRow.veiled == (Tryz.f6.params.toList++(Rows.OpenSpec.upto Rows.wireStatusesSpec).bare.plain.varTypes Tryz.prog++Tryz.f6.resultTypes.toList).any (Tryz.prog.veiledRec ·))) && (Rows.wireStatusesUptoRow.veiledFits Tryz.prog Tryz.f6.params.toList (Tryz.f6.params.toList++(Rows.OpenSpec.upto Rows.wireStatusesSpec).bare.plain.varTypes Tryz.prog++Tryz.f6.resultTypes.toList)))=true:=(FY (FY (FY (FY (FY (FY (FY (FY (FY (FY (FY (FY (FY (FY (FY (FY (FY (FY (FY (FY (FY (FY (FY (FY (FY (FY (FY (FY (FY (FY (FY Axt AwA) Awl) Axx) Awi) Awf) Awk) AvV) AvL) AvD) Atx) At5) Aue) Ar2) Asx) AsX) AtA) Asf) Ato) Atz) Ase) As5) AtU) Atv) Ar0) Auo) Asa) AuJ) Asg) ArT) AtX) At6)
set_option maxRecDepth 100000 in
theorem Af6:joinedFacts Tryz.prog 6 Tryz.f6 (Rows.OpenSpec.upto Rows.wireStatusesSpec).bare Rows.wireStatusesUptoRow=true:=An4
set_option maxRecDepth 100000 in
theorem lifted (os:Os) (started:os.Started) (H:Type) (enc:TypeId×Value→H) (F:Stop.Interp) :
  ReturnsInHanded {} Tryz.checked os 6 .any ((Rows.OpenSpec.upto Rows.wireStatusesSpec).preRow enc Tryz.prog Tryz.f6 Rows.wireStatusesUptoRow.domain false Rows.wireStatusesUptoRow.laid) (((Rows.OpenSpec.upto Rows.wireStatusesSpec).at F).post enc Tryz.prog Tryz.f6 false true false false):=by
 obtain ⟨places,hx⟩:=reads os enc
 refine returnsInHanded_of_row (C:=Tryz.checked) (s:=Rows.OpenSpec.upto Rows.wireStatusesSpec) own started (by kernel_rfl) Tryz.func6
  (witness_row_at (enc:=enc) (C:=Tryz.checked) false (AbQ os) #[.slice none 0 0,.slice none 0 0] rfl (by kernel_rfl) (by kernel_rfl) (by kernel_rfl)
   (OpenSpec.preRow_of_cond 8 hx (by kernel_rfl) (fun k hk=>by cases hk; kernel_rfl) (by kernel_rfl) (Adz os _))) ?_
 intro W base args ds gs before hval0 hW hcnd hcond hsz0 hL hsh _
 obtain ⟨t0,a0,t1,a1,m,hG⟩:=Afp hL hsh
 letI:AP:=giM t0 a0 t1 a1 m
 haveI:CO:=XO t0 a0 t1 a1 m
 haveI:DJ:=OU t0 a0 t1 a1 m
 haveI:DF:=OY t0 a0 t1 a1 m
 haveI:Aq:=Ll t0 a0 t1 a1 m
 haveI:Az:=XN t0 a0 t1 a1 m
 haveI:Au:=Xa t0 a0 t1 a1 m
 haveI:Fa:=⟨m,by kernel_rfl⟩
 have hsz:(DataW.weightsEach Tryz.prog (Tryz.f6.params.toList++Rows.wireStatusesSpec.plain.varTypes Tryz.prog) (ds++gs)).all (· ≤ reachBytes)=true:=hsz0
 have hval:∀ (j:Nat) t v,Tryz.f6.params[j]?=some t→args[j]?=some v→Value.okWide Tryz.prog W .any base t v:=hval0
 have hW':=hW
 obtain ⟨p,q,hA0,hV,rfl,hfz,hnd⟩:=hW
 have hA:DataW.TrodAll enc Tryz.prog W 0 (fun _=>true) true Tryz.f6.params.toList args.toList ds p:=hA0
 obtain ⟨rfl,rfl⟩:=trodVars_none hV
 have hsz2:(DataW.weightsEach Tryz.prog Tryz.f6.params.toList ds).all (· ≤ reachBytes)=true:=by
  have e:Tryz.f6.params.toList++Rows.wireStatusesSpec.plain.varTypes Tryz.prog=Tryz.f6.params.toList:=by simp [ChangeSpec.plain,Rows.wireStatusesSpec]; rfl
  rw [e,List.append_nil] at hsz; exact hsz
 have hA':=hA
 have hps:(Tryz.f6.params.toList.all fun t=>Tryz.prog.readableRec t && decide (t<Tryz.prog.types.size))=true:=by kernel_rfl
 have hv2:∀ (j:Nat) t v,Tryz.f6.params.toList[j]?=some t→args.toList[j]?=some v→∃ base,Value.okWide Tryz.prog W .any base t v:=fun j t v h1 h2=>⟨base,hval j t v (by rw [←Array.getElem?_toList]; exact h1) (by rw [←Array.getElem?_toList]; exact h2)⟩
 rw [Tryz.params6] at hA hsz2 hv2
 obtain ⟨dsE,hdsE⟩:∃ x,x=ds:=⟨_,rfl⟩
 refine (At1 (f:=6) (Wj (AbJ (R:=1048576)) (Aaa Tryz.underlying54) (fun _=>rfl) (Wj (Afa Tryz.underlying23 Tryz.underlying5 (by kernel_rfl) (by kernel_rfl)) (Aaa Tryz.underlying23) (fun _=>rfl) Ad3)) (fun a h=>AgA a.1 a.2.1 h.1.1 (fun r hr=>⟨Nat.le_trans (h.1.2 r hr).1 (by decide),(h.1.2 r hr).2⟩) h.2.1) hA hv2 hsz2 (AmT (hcond _ rfl)) (hG)).mono fun e W' ⟨he,bel⟩ => ?_
 subst he
 have hB:=Yz Ani.1 bel hps hA'
 have hAo:=hA
 obtain ⟨v0,vs0,d0,ds0,p0,q0,ha0,hd0,hp0,h0,r0⟩:=trodAll_cons hAo
 obtain ⟨v1,vs1,d1,ds1,p1,q1,ha1,hd1,hp1,h1,r1⟩:=trodAll_cons r0
 obtain ⟨hz1,hz2,hz3⟩:=trodAll_nil r1
 have hd:ds=[d0,d1]:=by rw [hd0,hd1,hz2]
 subst hd
 exact ⟨_,rfl,_,_,_,[],_,[],hW',trodAll_mk1 (shut_bool Tryz.underlying4 _),hB,rfl,bel.frame _,fun h=>by cases h⟩
theorem over:Rows.wireStatusesUptoRow.holds Tryz.pinned (Rows.OpenSpec.upto Rows.wireStatusesSpec) :=
 OpenClaim.holds_of_cond 6 Tryz.f6 rfl rfl rfl rfl rfl rfl rfl ⟨rfl,rfl,rfl,rfl,rfl⟩ rfl rfl rfl rfl rfl (by kernel_rfl) Tryz.func6 Af6
  (of_decide_eq_true (by kernel_rfl)) (by unfold Func.isWrapper; first | (rw [if_pos (by decide +kernel)]; kernel_rfl) | (rw [if_neg (by decide +kernel)]; exact ⟨rfl,rfl⟩))
  (fun os started H enc _ F=>by rw [OpenClaim.pre_eq_preRow]; exact lifted os started H enc F)
theorem stands:(Tryz.f6.params.toList.all fun t => !Tryz.prog.wantsStandIn t)=true:=by kernel_rfl
theorem proved:Rows.WireStatusesUptoCardSaid :=
 Claim7.holds_tied_plain_at .later [] [.data,.data,.data,.data,.handle,.sentinel,.sentinel,.pinned] true (true, "1cd508813a7ab9180b6b047ca0db803201969f14fae151725a7c55c995d18096") true
  over (fun _ h=>by cases h) (by kernel_rfl) (fun _ h=>by cases h) wireStatusesUpto_row_tie rfl ⟨rfl,rfl⟩ (by kernel_rfl) rfl
  (fun f fn hf hfn=>by
   obtain rfl:f=6:=(Option.some.inj ((show Tryz.prog.funcNamed "gitlike/gitlikelaw12.WireStatuses" = some 6 by kernel_rfl).symm.trans hf)).symm
   obtain rfl:fn=Tryz.f6:=(Option.some.inj (Tryz.func6.symm.trans hfn)).symm
   exact ⟨by kernel_rfl,fun j t ht=>by
    rw [←Array.getElem?_toList] at ht
    have:=List.all_eq_true.1 stands t (List.mem_of_getElem? ht)
    exact (show Tryz.prog.wantsStandIn t=false by simpa using this)⟩)
  (by kernel_rfl)
#print axioms proved
end Go.Proofs.YtnikbdnebdmmiaaGreatDoor.wireStatuses
