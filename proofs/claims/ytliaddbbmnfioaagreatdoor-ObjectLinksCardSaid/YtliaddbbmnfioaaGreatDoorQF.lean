/- What the proof of ObjectLinksCard stands on (texts merged; names shortened by a program): part 6. -/
import Derived.Test.YtliaddbbmnfioaaGreatDoorQE
import Derived.Test.YtliaddbbmnfioaaGreatDoorQD
import Derived.Test.YtliaddbbmnfioaaGreatDoorProg
import Derived.KernelRfl
import Derived.WalkKit
import Derived.Lib.BytesEntry
import Derived.Shelf.Bytes.SlIndexAt
import Derived.Lib.IndexMore
import Derived.Lib.TrimByte
import Derived.Sort.Walk0
import Derived.Lib.Bytealg
import Derived.Shelf.SlSortCmp.NoneTotal
import Derived.Lib.SlTrimSet
set_option linter.defProp false
set_option linter.unusedSectionVars false
set_option linter.unusedSimpArgs false
set_option linter.unusedVariables false
namespace Go.Proofs.YtliaddbbmnfioaaGreatDoor
section
variable [Cc]
set_option maxRecDepth 100000
def XK:AP := .seq (.seq (.ops [mv_ 4 0,po_ 5 (.bin 24 .lss (.t 4) (ci_ 1)),mv_ 6 5,⟨some 7,.p (.mov (.t 0)),some ⟨6,false⟩⟩,⟨some 8,.p (.bin 24 .gtr (.t 7) (ci_ 4)),some ⟨6,false⟩⟩,po_ 9 (.pick (.t 6) (.c (.bool true)) (.t 8))] [0,9])
 (.cond (.t 9)
 (.seq (.ops [po_ 2 (.mov (.c (.string (str [])))),po_ 3 (.mov (.c (.bool false)))] [2,3])
  (.ret))
 (.skip)))
 (.seq (.ops [mv_ 10 0,po_ 11 (.idxAA 5 1 (.g 0) (.t 10)),po_ 12 (.load false 1 (.t 11)),mv_ 2 12,po_ 3 (.mov (.c (.bool true)))] [2,3])
 (.ret))
def AdB:AP := .seq (.ops [po_ 2 (.mov (.c (.string (str [])))),po_ 3 (.mov (.c (.bool false)))] [0])
 XK
def AcM:List VR:=[.tmp 2,.tmp 3]
theorem AsB:Tryz.f25.body.bind (trC Tryz.prog Tryz.f25.ntmps)=some (er AdB):=by kernel_rfl
theorem Asy:trR Tryz.prog Tryz.f25.results.toList=some AcM:=by kernel_rfl
def Aja:=Ac XK.eq_1
def AoZ:=Ac AdB.eq_1
theorem Api {K:TV→Prop} {e:Env} {H:List Ob}:res AcM e H K=res [.tmp 2,.tmp 3] e H K:=Ap rfl
def Ub:=(aI_ (aI_ @Aja @AoZ) @Api)
def ArA:=ES 13 Tryz.func25 AsB Asy rfl
def Abr:AP := .seq (.block 1 (.seq (.ops [mv_ 9 7,po_ 10 (.idx false 5 1 (.t 6) (.t 7)),mv_ 4 9,mv_ 5 10] [0,4,5,6,7])
 (.seq (.ops [mv_ 11 5,mv_ 12 0,po_ 13 (.bin 9 .eql (.t 11) (.t 12)),mv_ 14 13,⟨some 15,.p (.mov (.t 0)),some ⟨14,true⟩⟩,⟨some 16,.p (.bin 9 .neq (.t 15) (.c (.string (str [])))),some ⟨14,true⟩⟩,po_ 17 (.pick (.t 14) (.t 16) (.c (.bool false)))] [0,4,6,7,17])
 (.cond (.t 17)
 (.seq (.ops [mv_ 18 4,mv_ 2 18,po_ 3 (.mov (.c (.bool true)))] [2,3])
  (.ret))
 (.skip)))))
 (.ops [po_ 19 (.bin 3 .add (.t 7) (ci_ 1)),mv_ 7 19] [0,6,7])
def Abn:AP := .seq (.cond (.t 8)
 (.skip)
 (.exit 0))
 Abr
def Abm:AP := .seq (.ops [po_ 8 (.bin 3 .lss (.t 7) (ci_ 5))] [0,6,7,8])
 Abn
def AaP:AP := .block 0 (.loop [0,6,7] Abm)
def Abz:AP := .seq (.ops [po_ 2 (.mov (ci_ 0)),po_ 3 (.mov (.c (.bool false)))] [2,3])
 (.ret)
def Aa0:AP := .seq (.seq (.ops [po_ 6 (.load true 5 (.g 0)),po_ 7 (.mov (ci_ 0))] [0,6,7])
 AaP)
 Abz
def Akl:AP := .seq (.ops [po_ 2 (.mov (ci_ 0)),po_ 3 (.mov (.c (.bool false)))] [0])
 Aa0
def AjZ:List VR:=[.tmp 2,.tmp 3]
theorem AvB:Tryz.f73.body.bind (trC Tryz.prog Tryz.f73.ntmps)=some (er Akl):=by kernel_rfl
theorem AuO:trR Tryz.prog Tryz.f73.results.toList=some AjZ:=by kernel_rfl
def Amd:=Ac Abr.eq_1
def Amk:=Ac Abn.eq_1
def Al1:=Ac Abm.eq_1
def AmK:=Ac AaP.eq_1
def Amq:=Ac Abz.eq_1
def Amc:=Ac Aa0.eq_1
def AsO:=Ac Akl.eq_1
theorem As7 {K:TV→Prop} {e:Env} {H:List Ob}:res AjZ e H K=res [.tmp 2,.tmp 3] e H K:=Ap rfl
def Eb:=(aI_ (aI_ (aI_ @Amd @Amk) (aI_ @Al1 @AmK)) (aI_ (aI_ @Amq @Amc) (aI_ @AsO @As7)))
def Aus:=ES 20 Tryz.func73 AvB AuO rfl
def ZO:AP := .seq (.ops [mv_ 7 0,so_ 8 (.call 89 [.t 7,.c (.int .i64 ((10:Nat):Int)),.c (.int .i64 ((62:Nat):Int))]),mv_ 6 8,po_ 9 (.ext 0 (.t 6)),po_ 10 (.ext 1 (.t 6)),mv_ 4 9,mv_ 5 10] [0,4,5])
 (.seq (.ops [mv_ 11 4,po_ 12 (.conv .i64 (.t 11)),mv_ 13 5,po_ 14 (.eqN 1 (.t 13) (.c .nilIface) false),mv_ 15 14,⟨some 16,.p (.mov (.t 4)),some ⟨15,true⟩⟩,⟨some 17,.s (.call 168 [.t 16,.c (.int .i64 ((10:Nat):Int))]),some ⟨15,true⟩⟩,⟨some 18,.p (.mov (.t 0)),some ⟨15,true⟩⟩,⟨some 19,.p (.bin 9 .eql (.t 17) (.t 18)),some ⟨15,true⟩⟩,po_ 20 (.pick (.t 15) (.t 19) (.c (.bool false))),mv_ 2 12,mv_ 3 20] [2,3])
 (.ret))
def AiB:AP := .seq (.ops [po_ 2 (.mov (ci_ 0)),po_ 3 (.mov (.c (.bool false)))] [0])
 ZO
def Aio:List VR:=[.tmp 2,.tmp 3]
theorem AtU:Tryz.f137.body.bind (trC Tryz.prog Tryz.f137.ntmps)=some (er AiB):=by kernel_rfl
theorem Aua:trR Tryz.prog Tryz.f137.results.toList=some Aio:=by kernel_rfl
def AlE:=Ac ZO.eq_1
def AqG:=Ac AiB.eq_1
theorem Ar0 {K:TV→Prop} {e:Env} {H:List Ob}:res Aio e H K=res [.tmp 2,.tmp 3] e H K:=Ap rfl
def Wn:=(aI_ (aI_ @AlE @AqG) @Ar0)
def AsJ:=ES 21 Tryz.func137 AtU Aua rfl
def AhZ:AP := .seq (.ops [mv_ 21 5,po_ 22 (.fieldA 1 1 (.t 1)),po_ 23 (.load false 1 (.t 22)),po_ 24 (.lenV (.t 23)),so_ 25 (.call 69 [.t 24]),so_ 26 (.appS 5 (.t 21) (.t 25)),mv_ 5 26] [1,5])
 (.seq (.ops [mv_ 27 5,⟨some 28,.s (.bslice 1 1 (.val (.int .u8 ((0:Nat):Int))) [⟨0,.c (.int .u8 ((0:Nat):Int))⟩]),none⟩,so_ 29 (.app 1 1 5 (.t 27) (.t 28)),mv_ 5 29] [1,5])
 (.seq (.ops [mv_ 30 5,po_ 31 (.fieldA 1 1 (.t 1)),po_ 32 (.load false 1 (.t 31)),so_ 33 (.app 1 1 5 (.t 30) (.t 32)),mv_ 2 33,po_ 3 (.mov (ci_ 0))] [2,3])
 (.ret)))
def AhC:AP := .seq (.ops [mv_ 18 5,⟨some 19,.s (.bslice 1 1 (.val (.int .u8 ((0:Nat):Int))) [⟨0,.c (.int .u8 ((32:Nat):Int))⟩]),none⟩,so_ 20 (.app 1 1 5 (.t 18) (.t 19)),mv_ 5 20] [1,5])
 AhZ
def Ah6:AP := .seq (.ops [mv_ 15 5,mv_ 16 4,so_ 17 (.appS 5 (.t 15) (.t 16)),mv_ 5 17] [1,5])
 AhC
def AiP:AP := .seq (.ops [po_ 5 (.mov (.c (.slice none 0 0)))] [1,4,5])
 Ah6
def Aiy:AP := .seq (.seq (.ops [po_ 11 (.fieldA 1 1 (.t 1)),po_ 12 (.load false 1 (.t 11)),po_ 13 (.lenV (.t 12)),po_ 14 (.bin 3 .gtr (.t 13) (ci_ 100000))] [1,4,14])
 (.cond (.t 14)
 (.seq (.ops [po_ 2 (.mov (.c (.slice none 0 0))),po_ 3 (.mov (ci_ 11))] [2,3])
  (.ret))
 (.skip)))
 AiP
def Ah5:AP := .seq (.seq (.ops [mv_ 9 4,po_ 10 (.bin 9 .eql (.t 9) (.c (.string (str []))))] [1,4,10])
 (.cond (.t 10)
 (.seq (.ops [po_ 2 (.mov (.c (.slice none 0 0))),po_ 3 (.mov (ci_ 20))] [2,3])
  (.ret))
 (.skip)))
 Aiy
def Ahw:AP := .seq (.ops [po_ 6 (.fieldA 0 0 (.t 1)),po_ 7 (.load false 1 (.t 6)),so_ 8 (.call 35 [.t 7]),mv_ 4 8] [1,4])
 Ah5
def AqV:AP := .seq (.ops [so_ 1 (.box (.t 0)),po_ 2 (.mov (.c (.slice none 0 0))),po_ 3 (.mov (ci_ 0))] [1])
 Ahw
def AqM:List VR:=[.tmp 2,.tmp 3]
theorem Ax7:Tryz.f55.body.bind (trC Tryz.prog Tryz.f55.ntmps)=some (er AqV):=by kernel_rfl
theorem AxZ:trR Tryz.prog Tryz.f55.results.toList=some AqM:=by kernel_rfl
def Aqv:=Ac AhZ.eq_1
def AqK:=Ac AhC.eq_1
def Ari:=Ac Ah6.eq_1
def Ar3:=Ac AiP.eq_1
def AaW:=Ac Aiy.eq_1
def Qo:=Ac Ah5.eq_1
def AqU:=Ac Ahw.eq_1
def Ave:=Ac AqV.eq_1
theorem ZZ {K:TV→Prop} {e:Env} {H:List Ob}:res AqM e H K=res [.tmp 2,.tmp 3] e H K:=Ap rfl
def AwL:=ES 34 Tryz.func55 Ax7 AxZ rfl
def Ani:AP := .seq (.ops [po_ 7 (.bin 3 .eql (.t 3) (ci_ 2)),mv_ 6 7] [3,6])
 (.cond (.t 6)
 (.seq (.ops [po_ 2 (.mov (.c (.string (str [116,114,101,101]))))] [2])
  (.ret))
 (.seq (.ops [po_ 9 (.bin 3 .eql (.t 3) (ci_ 3)),mv_ 8 9] [3,8])
  (.cond (.t 8)
  (.seq (.ops [po_ 2 (.mov (.c (.string (str [98,108,111,98]))))] [2])
   (.ret))
  (.seq (.ops [po_ 11 (.bin 3 .eql (.t 3) (ci_ 4)),mv_ 10 11] [10])
   (.cond (.t 10)
   (.seq (.ops [po_ 2 (.mov (.c (.string (str [116,97,103]))))] [2])
    (.ret))
   (.skip))))))
def Ank:AP := .seq (.seq (.ops [mv_ 3 0] [3])
 (.block 0 (.seq (.ops [po_ 5 (.bin 3 .eql (.t 3) (ci_ 1)),mv_ 4 5] [3,4])
 (.cond (.t 4)
 (.seq (.ops [po_ 2 (.mov (.c (.string (str [99,111,109,109,105,116]))))] [2])
  (.ret))
 Ani))))
 (.seq (.ops [po_ 2 (.mov (.c (.string (str []))))] [2])
 (.ret))
def Avi:AP := .seq (.ops [po_ 2 (.mov (.c (.string (str []))))] [0])
 Ank
def Au1:List VR:=[.tmp 2]
theorem ABv:Tryz.f35.body.bind (trC Tryz.prog Tryz.f35.ntmps)=some (er Avi):=by kernel_rfl
theorem ABH:trR Tryz.prog Tryz.f35.results.toList=some Au1:=by kernel_rfl
def Aud:=Ac Ani.eq_1
def At4:=Ac Ank.eq_1
def AxY:=Ac Avi.eq_1
theorem Ayb {K:TV→Prop} {e:Env} {H:List Ob}:res Au1 e H K=res [.tmp 2] e H K:=Ap rfl
def ZL:=(aI_ (aI_ @Aud @At4) (aI_ @AxY @Ayb))
def AAy:=ES 12 Tryz.func35 ABv ABH rfl
def Anp:AP := .seq (.draw 5 [mv_ 13 0,mv_ 14 7,po_ 15 (.slV 1 (.t 13) none (some (.t 14))),mv_ 16 0,mv_ 17 7,mv_ 18 1,po_ 19 (.lenV (.t 18)),po_ 20 (.bin 3 .add (.t 17) (.t 19)),po_ 21 (.slV 1 (.t 16) (some (.t 20)) none),mv_ 4 15,mv_ 5 21,po_ 6 (.mov (.c (.bool true)))] [4,5,6])
 (.ret)
def Ang:AP := .seq (.ops [mv_ 11 7,po_ 12 (.bin 3 .geq (.t 11) (ci_ 0))] [0,1,7,12])
 (.cond (.t 12)
 Anp
 (.skip))
def Am4:AP := .seq (.seq (.ops [mv_ 8 0,mv_ 9 1,so_ 10 (.call 122 [.t 8,.t 9]),mv_ 7 10] [0,1,7])
 Ang)
 (.seq (.ops [mv_ 22 0,mv_ 4 22,po_ 5 (.mov (.c (.slice none 0 0))),po_ 6 (.mov (.c (.bool false)))] [4,5,6])
 (.ret))
def Au8:AP := .seq (.ops [po_ 4 (.mov (.c (.slice none 0 0))),po_ 5 (.mov (.c (.slice none 0 0))),po_ 6 (.mov (.c (.bool false)))] [0,1])
 Am4
def AvE:List VR:=[.tmp 4,.tmp 5,.tmp 6]
theorem ABp:Tryz.f88.body.bind (trC Tryz.prog Tryz.f88.ntmps)=some (er Au8):=by kernel_rfl
theorem ABQ:trR Tryz.prog Tryz.f88.results.toList=some AvE:=by kernel_rfl
def Aui:=Ac Anp.eq_1
def Aub:=Ac Ang.eq_1
def Aul:=Ac Am4.eq_1
def Ayd:=Ac Au8.eq_1
theorem Ayi {K:TV→Prop} {e:Env} {H:List Ob}:res AvE e H K=res [.tmp 4,.tmp 5,.tmp 6] e H K:=Ap rfl
def Aqf:=(aI_ (aI_ (aI_ @Aui @Aub) (aI_ @Aul @Ayd)) @Ayi)
def AAU:=ES 23 Tryz.func88 ABp ABQ rfl
def AhA:AP := .seq (.ops [mv_ 76 0,mv_ 77 8,po_ 78 (.bin 3 .add (.t 77) (ci_ 1)),mv_ 79 9,po_ 80 (.slV 1 (.t 76) (some (.t 78)) (some (.t 79))),mv_ 81 6,so_ 82 (.call 146 [.t 80,.t 81]),mv_ 11 82] [0,1,5,6,7,8,9,10,11,12])
 (.seq (.seq (.ops [mv_ 83 11,po_ 84 (.bin 3 .lss (.t 83) (ci_ 0))] [0,1,5,6,7,8,9,10,11,12,84])
 (.cond (.t 84)
 (.seq (.ops [po_ 4 (.mov (.c (.int .i64 (-1))))] [4])
  (.ret))
 (.skip)))
 (.ops [mv_ 85 8,mv_ 86 11,po_ 87 (.bin 3 .add (.t 86) (ci_ 1)),po_ 88 (.bin 3 .add (.t 85) (.t 87)),mv_ 8 88] [0,1,5,6,7,8,9,10,12]))
def AhF:AP := .cond (.t 75)
 AhA
 (.skip)
def Aib:AP := .seq (.dead)
 (.seq (.seq (.ops [mv_ 120 12,po_ 121 (.bin 3 .geq (.t 120) (ci_ 0))] [8,12,121])
 (.cond (.t 121)
 (.seq (.ops [mv_ 122 12,mv_ 123 8,po_ 124 (.bin 3 .add (.t 122) (.t 123)),mv_ 4 124] [4])
  (.ret))
 (.skip)))
 (.seq (.ops [po_ 4 (.mov (.c (.int .i64 (-1))))] [4])
 (.ret)))
def Aij:AP := .seq (.ops [mv_ 109 8,po_ 110 (.bin 3 .add (.t 109) (ci_ 1)),mv_ 8 110] [0,1,5,6,7,8,9,10,12])
 (.seq (.ops [mv_ 111 10,mv_ 112 8,so_ 113 (.call 149 [.t 112]),po_ 114 (.bin 3 .gtr (.t 111) (.t 113))] [0,1,5,6,7,8,9,10,12,114])
 (.cond (.t 114)
 Aib
 (.skip)))
def Aiw:AP := .seq (.ops [mv_ 107 10,po_ 108 (.bin 3 .add (.t 107) (ci_ 1)),mv_ 10 108] [0,1,5,6,7,8,9,10,12])
 Aij
def AiO:AP := .seq (.seq (.ops [mv_ 89 0,mv_ 90 8,po_ 91 (.bin 3 .add (.t 90) (ci_ 1)),po_ 92 (.idxA 1 (.t 89) (.t 91)),po_ 93 (.load false 1 (.t 92)),mv_ 94 7,po_ 95 (.bin 5 .eql (.t 93) (.t 94)),mv_ 96 95,⟨some 97,.p (.mov (.t 0)),some ⟨96,true⟩⟩,⟨some 98,.p (.mov (.t 8)),some ⟨96,true⟩⟩,⟨some 99,.p (.mov (.t 8)),some ⟨96,true⟩⟩,⟨some 100,.p (.mov (.t 5)),some ⟨96,true⟩⟩,⟨some 101,.p (.bin 3 .add (.t 99) (.t 100)),some ⟨96,true⟩⟩,⟨some 102,.p (.slV 1 (.t 97) (some (.t 98)) (some (.t 101))),some ⟨96,true⟩⟩,⟨some 103,.p (.mov (.t 1)),some ⟨96,true⟩⟩,⟨some 104,.s (.call 147 [.t 102,.t 103]),some ⟨96,true⟩⟩,po_ 105 (.pick (.t 96) (.t 104) (.c (.bool false)))] [0,1,5,6,7,8,9,10,12,105])
 (.cond (.t 105)
 (.seq (.ops [mv_ 106 8,mv_ 4 106] [4])
  (.ret))
 (.skip)))
 Aiw
def AiH:AP := .block 2 (.seq (.seq (.ops [mv_ 70 0,mv_ 71 8,po_ 72 (.idxA 1 (.t 70) (.t 71)),po_ 73 (.load false 1 (.t 72)),mv_ 74 6,po_ 75 (.bin 5 .neq (.t 73) (.t 74))] [0,1,5,6,7,8,9,10,12,75])
 AhF)
 AiO)
def AhY:AP := .seq (.seq (.ops [mv_ 67 8,mv_ 68 9,po_ 69 (.bin 3 .lss (.t 67) (.t 68))] [0,1,5,6,7,8,9,10,12,69])
 (.cond (.t 69)
 (.skip)
 (.exit 1)))
 AiH
def AhX:AP := .seq (.ops [po_ 4 (.mov (.c (.int .i64 (-1))))] [4])
 (.ret)
def Afj:AP := .seq (.block 1 (.loop [0,1,5,6,7,8,9,10,12] AhY))
 AhX
def Ad8:AP := .seq (.ops [po_ 10 (.mov (ci_ 0))] [0,1,5,6,7,8,9,10,12])
 Afj
def AdK:AP := .seq (.ops [mv_ 62 0,po_ 63 (.lenV (.t 62)),mv_ 64 5,po_ 65 (.bin 3 .sub (.t 63) (.t 64)),po_ 66 (.bin 3 .add (.t 65) (ci_ 1)),mv_ 9 66] [0,1,5,6,7,8,9,12])
 Ad8
def Afk:AP := .seq (.ops [po_ 8 (.mov (ci_ 0))] [0,1,5,6,7,8,12])
 AdK
def Afq:AP := .seq (.ops [mv_ 59 1,po_ 60 (.idxA 1 (.t 59) (ci_ 1)),po_ 61 (.load false 1 (.t 60)),mv_ 7 61] [0,1,5,6,7,12])
 Afk
def AfI:AP := .seq (.ops [mv_ 56 1,po_ 57 (.idxA 1 (.t 56) (ci_ 0)),po_ 58 (.load false 1 (.t 57)),mv_ 6 58] [0,1,5,6,12])
 Afq
def Adz:AP := .seq (.seq (.ops [mv_ 50 0,po_ 51 (.lenV (.t 50)),po_ 52 (.bin 3 .leq (.t 51) (ci_ 64))] [0,1,4,5,12,52])
 (.cond (.t 52)
 (.seq (.dead)
  (.ret))
 (.skip)))
 AfI
def Ae7:AP := .cond (.t 46)
 Adz
 (.skip)
def AcW:AP := .seq (.ops [mv_ 47 5,po_ 48 (.load false 1 (.g 2)),po_ 49 (.bin 3 .leq (.t 47) (.t 48)),mv_ 46 49] [0,1,4,5,12,46])
 Ae7
def AdJ:AP := .cond (.t 41)
 (.seq (.ops [po_ 4 (.mov (.c (.int .i64 (-1))))] [4])
  (.ret))
 AcW
def Aeu:AP := .seq (.ops [mv_ 42 5,mv_ 43 0,po_ 44 (.lenV (.t 43)),po_ 45 (.bin 3 .gtr (.t 42) (.t 44)),mv_ 41 45] [0,1,4,5,12,41])
 AdJ
def Af3:AP := .cond (.t 33)
 (.seq (.seq (.ops [mv_ 38 1,mv_ 39 0,so_ 40 (.call 147 [.t 38,.t 39])] [40])
  (.cond (.t 40)
  (.seq (.ops [po_ 4 (.mov (ci_ 0))] [4])
   (.ret))
  (.skip)))
  (.seq (.ops [po_ 4 (.mov (.c (.int .i64 (-1))))] [4])
  (.ret)))
 Aeu
def AcV:AP := .seq (.ops [mv_ 34 5,mv_ 35 0,po_ 36 (.lenV (.t 35)),po_ 37 (.bin 3 .eql (.t 34) (.t 36)),mv_ 33 37] [0,1,4,5,12,33])
 Af3
def AdE:AP := .cond (.t 25)
 (.seq (.ops [mv_ 28 0,mv_ 29 1,po_ 30 (.idxA 1 (.t 29) (ci_ 0)),po_ 31 (.load false 1 (.t 30)),so_ 32 (.call 146 [.t 28,.t 31]),mv_ 4 32] [4])
  (.ret))
 AcV
def AeV:AP := .seq (.ops [mv_ 26 5,po_ 27 (.bin 3 .eql (.t 26) (ci_ 1)),mv_ 25 27] [0,1,4,5,12,25])
 AdE
def AfK:AP := .cond (.t 22)
 (.seq (.ops [po_ 4 (.mov (ci_ 0))] [4])
  (.ret))
 AeV
def AfM:AP := .seq (.ops [mv_ 145 0,mv_ 146 15,po_ 147 (.bin 3 .add (.t 146) (ci_ 1)),mv_ 148 17,po_ 149 (.slV 1 (.t 145) (some (.t 147)) (some (.t 148))),mv_ 150 13,so_ 151 (.call 146 [.t 149,.t 150]),mv_ 18 151] [0,1,5,13,14,15,16,17,18])
 (.seq (.seq (.ops [mv_ 152 18,po_ 153 (.bin 3 .lss (.t 152) (ci_ 0))] [0,1,5,13,14,15,16,17,18,153])
 (.cond (.t 153)
 (.exit 3)
 (.skip)))
 (.ops [mv_ 154 15,mv_ 155 18,po_ 156 (.bin 3 .add (.t 155) (ci_ 1)),po_ 157 (.bin 3 .add (.t 154) (.t 156)),mv_ 15 157] [0,1,5,13,14,15,16,17]))
def AdT:AP := .cond (.t 144)
 AfM
 (.skip)
def Ad9:AP := .seq (.ops [mv_ 190 0,mv_ 191 15,po_ 192 (.slV 1 (.t 190) (some (.t 191)) none),mv_ 193 1,so_ 194 (.call 150 [.t 192,.t 193]),mv_ 19 194] [15,19])
 (.seq (.seq (.ops [mv_ 195 19,po_ 196 (.bin 3 .lss (.t 195) (ci_ 0))] [15,19,196])
 (.cond (.t 196)
 (.seq (.ops [po_ 4 (.mov (.c (.int .i64 (-1))))] [4])
  (.ret))
 (.skip)))
 (.seq (.ops [mv_ 197 15,mv_ 198 19,po_ 199 (.bin 3 .add (.t 197) (.t 198)),mv_ 4 199] [4])
 (.ret)))
def Adp:AP := .cond (.t 189)
 Ad9
 (.skip)
def Afy:AP := .seq (.ops [mv_ 180 16,mv_ 181 15,po_ 182 (.bin 3 .shr (.t 181) (.c (.int .u64 ((4:Nat):Int)))),po_ 183 (.bin 3 .add (ci_ 4) (.t 182)),po_ 184 (.bin 3 .geq (.t 180) (.t 183)),mv_ 185 184,⟨some 186,.p (.mov (.t 15)),some ⟨185,true⟩⟩,⟨some 187,.p (.mov (.t 17)),some ⟨185,true⟩⟩,⟨some 188,.p (.bin 3 .lss (.t 186) (.t 187)),some ⟨185,true⟩⟩,po_ 189 (.pick (.t 185) (.t 188) (.c (.bool false)))] [0,1,5,13,14,15,16,17,189])
 Adp
def Ad2:AP := .seq (.ops [mv_ 178 16,po_ 179 (.bin 3 .add (.t 178) (ci_ 1)),mv_ 16 179] [0,1,5,13,14,15,16,17])
 Afy
def Ad0:AP := .seq (.ops [mv_ 176 15,po_ 177 (.bin 3 .add (.t 176) (ci_ 1)),mv_ 15 177] [0,1,5,13,14,15,16,17])
 Ad2
def AeZ:AP := .seq (.seq (.ops [mv_ 158 0,mv_ 159 15,po_ 160 (.bin 3 .add (.t 159) (ci_ 1)),po_ 161 (.idxA 1 (.t 158) (.t 160)),po_ 162 (.load false 1 (.t 161)),mv_ 163 14,po_ 164 (.bin 5 .eql (.t 162) (.t 163)),mv_ 165 164,⟨some 166,.p (.mov (.t 0)),some ⟨165,true⟩⟩,⟨some 167,.p (.mov (.t 15)),some ⟨165,true⟩⟩,⟨some 168,.p (.mov (.t 15)),some ⟨165,true⟩⟩,⟨some 169,.p (.mov (.t 5)),some ⟨165,true⟩⟩,⟨some 170,.p (.bin 3 .add (.t 168) (.t 169)),some ⟨165,true⟩⟩,⟨some 171,.p (.slV 1 (.t 166) (some (.t 167)) (some (.t 170))),some ⟨165,true⟩⟩,⟨some 172,.p (.mov (.t 1)),some ⟨165,true⟩⟩,⟨some 173,.s (.call 147 [.t 171,.t 172]),some ⟨165,true⟩⟩,po_ 174 (.pick (.t 165) (.t 173) (.c (.bool false)))] [0,1,5,13,14,15,16,17,174])
 (.cond (.t 174)
 (.seq (.ops [mv_ 175 15,mv_ 4 175] [4])
  (.ret))
 (.skip)))
 Ad0
def Afu:AP := .block 4 (.seq (.seq (.ops [mv_ 139 0,mv_ 140 15,po_ 141 (.idxA 1 (.t 139) (.t 140)),po_ 142 (.load false 1 (.t 141)),mv_ 143 13,po_ 144 (.bin 5 .neq (.t 142) (.t 143))] [0,1,5,13,14,15,16,17,144])
 AdT)
 AeZ)
def AdF:AP := .seq (.seq (.ops [mv_ 136 15,mv_ 137 17,po_ 138 (.bin 3 .lss (.t 136) (.t 137))] [0,1,5,13,14,15,16,17,138])
 (.cond (.t 138)
 (.skip)
 (.exit 3)))
 Afu
def Adm:AP := .seq (.ops [po_ 4 (.mov (.c (.int .i64 (-1))))] [4])
 (.ret)
def Afi:AP := .seq (.block 3 (.loop [0,1,5,13,14,15,16,17] AdF))
 Adm
def Aeq:AP := .seq (.ops [mv_ 131 0,po_ 132 (.lenV (.t 131)),mv_ 133 5,po_ 134 (.bin 3 .sub (.t 132) (.t 133)),po_ 135 (.bin 3 .add (.t 134) (ci_ 1)),mv_ 17 135] [0,1,5,13,14,15,16,17])
 Afi
def Aew:AP := .seq (.ops [po_ 16 (.mov (ci_ 0))] [0,1,5,13,14,15,16])
 Aeq
def AdD:AP := .seq (.ops [po_ 15 (.mov (ci_ 0))] [0,1,5,13,14,15])
 Aew
def AeP:AP := .seq (.ops [mv_ 128 1,po_ 129 (.idxA 1 (.t 128) (ci_ 1)),po_ 130 (.load false 1 (.t 129)),mv_ 14 130] [0,1,5,13,14])
 AdD
def Ac4:AP := .seq (.ops [mv_ 125 1,po_ 126 (.idxA 1 (.t 125) (ci_ 0)),po_ 127 (.load false 1 (.t 126)),mv_ 13 127] [0,1,5,13])
 AeP
def AdN:AP := .seq (.block 0 (.seq (.ops [mv_ 23 5,po_ 24 (.bin 3 .eql (.t 23) (ci_ 0)),mv_ 22 24] [0,1,4,5,12,22])
 AfK))
 Ac4
def AfC:AP := .seq (.ops [mv_ 20 1,po_ 21 (.lenV (.t 20)),mv_ 5 21] [0,1,4,5,12])
 AdN
def Aq8:AP := .seq (.ops [po_ 4 (.mov (ci_ 0))] [0,1,4,12])
 AfC
def Aq5:List VR:=[.tmp 4]
theorem Ax2:Tryz.f122.body.bind (trC Tryz.prog Tryz.f122.ntmps)=some (er Aq8):=by kernel_rfl
theorem Ayf:trR Tryz.prog Tryz.f122.results.toList=some Aq5:=by kernel_rfl
def Aq1:=Ac AhA.eq_1
def ArH:=Ac AhF.eq_1
def Aqk:=Ac Aib.eq_1
def ArL:=Ac Aij.eq_1
def AqY:=Ac Aiw.eq_1
def Ary:=Ac AiO.eq_1
def Arj:=Ac AiH.eq_1
def AqR:=Ac AhY.eq_1
def ArV:=Ac AhX.eq_1
def ApK:=Ac Afj.eq_1
def Aqd:=Ac Ad8.eq_1
def Aqb:=Ac AdK.eq_1
def AoB:=Ac Afk.eq_1
def ApQ:=Ac Afq.eq_1
def Aoj:=Ac AfI.eq_1
def Aom:=Ac Adz.eq_1
def Ap5:=Ac Ae7.eq_1
def Ap3:=Ac AcW.eq_1
def Aoi:=Ac AdJ.eq_1
def Apn:=Ac Aeu.eq_1
def Apj:=Ac Af3.eq_1
def AoY:=Ac AcV.eq_1
def Aoh:=Ac AdE.eq_1
def ApM:=Ac AeV.eq_1
def Aon:=Ac AfK.eq_1
def AoI:=Ac AfM.eq_1
def Aob:=Ac AdT.eq_1
def Aps:=Ac Ad9.eq_1
def Aok:=Ac Adp.eq_1
def An7:=Ac Afy.eq_1
def ApW:=Ac Ad2.eq_1
def Ap4:=Ac Ad0.eq_1
def ApH:=Ac AeZ.eq_1
def Ap0:=Ac Afu.eq_1
def ApI:=Ac AdF.eq_1
def ApA:=Ac Adm.eq_1
def Apc:=Ac Afi.eq_1
def Aoa:=Ac Aeq.eq_1
def ApR:=Ac Aew.eq_1
def ApB:=Ac AdD.eq_1
def Ap7:=Ac AeP.eq_1
def Aph:=Ac Ac4.eq_1
def Aor:=Ac AdN.eq_1
def AoE:=Ac AfC.eq_1
def Avd:=Ac Aq8.eq_1
theorem Au7 {K:TV→Prop} {e:Env} {H:List Ob}:res Aq5 e H K=res [.tmp 4] e H K:=Ap rfl
def Arv:=(aI_ (aI_ (aI_ (aI_ (aI_ (aI_ @Aq1 @ArH) (aI_ @Aqk @ArL)) (aI_ (aI_ @AqY @Ary) (aI_ @Arj @AqR))) (aI_ (aI_ (aI_ @ArV @ApK) (aI_ @Aqd @Aqb)) (aI_ (aI_ @AoB @ApQ) (aI_ @Aoj @Aom)))) (aI_ (aI_ (aI_ (aI_ @Ap5 @Ap3) (aI_ @Aoi @Apn)) (aI_ (aI_ @Apj @AoY) (aI_ @Aoh @ApM))) (aI_ (aI_ (aI_ @Aon @AoI) (aI_ @Aob @Aps)) (aI_ (aI_ @Aok @An7) (aI_ @ApW @Ap4))))) (aI_ (aI_ (aI_ (aI_ @ApH @Ap0) (aI_ @ApI @ApA)) (aI_ (aI_ @Apc @Aoa) (aI_ @ApR @ApB))) (aI_ (aI_ (aI_ @Ap7 @Aph) (aI_ @Aor @AoE)) (aI_ @Avd @Au7))))
def AwA:=ES 200 Tryz.func122 Ax2 Ayf rfl
end
section
open Go.RowKit
variable [Cc]
def EK (k:Int):Option (List UInt8):=if k=1 then some [99,111,109,109,105,116] else if k=2 then some [116,114,101,101] else if k=3 then some [98,108,111,98] else if k=4 then some [116,97,103] else none
def AyR (k:Int) (d:List UInt8):Except Nat (List UInt8):=match EK k with
 | none => .error 20
 | some n=>if d.length≤100000 then .ok (n++32::Lib.decDigits d.length++0::d) else .error 11
theorem Yo {k:Int} {n:List UInt8} (h:EK k=some n):1≤k∧k≤4∧n.length≤6:=by
 unfold EK at h
 split at h
 ·cases h; simp; omega
 ·split at h
  ·cases h; simp; omega
  ·split at h
   ·cases h; simp; omega
   ·split at h
    ·cases h; simp; omega
    ·cases h
section
variable [BI]
theorem AC7:D7.tv = .arr 5 1 [ts [],ts [99,111,109,109,105,116],ts [116,114,101,101],ts [98,108,111,98],ts [116,97,103]]:=by rfl
theorem BjK (k:Int) (h1 : -9223372036854775808≤k) (h2:k≤9223372036854775807):CE Tryz.prog 25 [i64 k] (fun r=>(∀ n,EK k=some n→r = .tup [ts n,tb true])∧(EK k=none→r = .tup [ts [],tb false])):=by
 refine BD.toPureV (ArA (by simp) ?_)
 by_cases c1:k<1
 ·have hn:EK k=none:=by unfold EK; rw [if_neg (by omega),if_neg (by omega),if_neg (by omega),if_neg (by omega)]
  simp -dsimp (disch:=first | assumption | omega | (simp only [Aa];try omega)) only [↓AB,Aj,AA,Az,eq_self,Nat.reduceEqDiff,↓reduceIte,reduceCtorEq,↓Ub]
  rw [hn]
  simp
 by_cases c4:k > 4
 ·have hn:EK k=none:=by unfold EK; rw [if_neg (by omega),if_neg (by omega),if_neg (by omega),if_neg (by omega)]
  simp -dsimp (disch:=first | assumption | omega | (simp only [Aa];try omega)) only [↓AB,Aj,AA,Az,eq_self,Nat.reduceEqDiff,↓reduceIte,reduceCtorEq,↓Ub]
  rw [hn]
  simp
 obtain ⟨j,rfl⟩:∃ j:Nat,k=(j:Int):=⟨k.toNat,by omega⟩
 have hk:=BI.k
 obtain h | h | h | h:j=1∨j=2∨j=3∨j=4:=by omega
 all_goals
  subst h
  simp -dsimp (disch:=first | assumption | omega | (simp only [Aa];try omega)) only [↓AB,Aj,AA,Az,eq_self,Nat.reduceLT,Nat.reduceEqDiff,↓reduceIte,reduceCtorEq,↓Ub,hk,AC7]
  simp [EK]
end
end
section
open Go.RowKit
variable [Cc]
def LK (b:UInt8):Bool:=48≤b.toNat && b.toNat≤57
def AeF:Nat→List UInt8→Nat
 | n,[]=>n
 | n,b::l=>AeF (n*10+(b.toNat - 48)) l
theorem AaO:∀ (l m:List UInt8) (n:Nat),AeF n (l++m)=AeF (AeF n l) m
 | [],_,_=>rfl
 | b::l,m,n=>AaO l m _
theorem ABt:∀ (l:List UInt8) (n:Nat),n≤AeF n l
 | [],n=>Nat.le_refl _
 | b::l,n=>Nat.le_trans (by omega) (ABt l _)
def pU (s:List UInt8):Option Nat:=if s≠[]∧s.all LK∧AeF 0 s<4611686018427387904 then some (AeF 0 s) else none
theorem Bxf:∀ b:Nat,b<256→¬ (48≤b∧b≤57)→97≤b ||| 32→b ||| 32≤122→10≤(b ||| 32) - 97+10:=by
 intro b h1 h2 h3 h4; omega
def AAV (s:List UInt8) (r:TV):Prop:=(∀ n,pU s=some n→r = .tup [.val (.int .u64 (n:Int)),.val .nilIface])∧(pU s=none→∃ m c:Nat,(c=1∨c=2)∧r = .tup [.val (.int .u64 (m:Int)),.ifc 228 (i64 (c:Int))])
theorem AAV.no {s:List UInt8} (h:pU s=none) {m c:Nat} (hc:c=1∨c=2):AAV s (.tup [.val (.int .u64 (m:Int)),.ifc 228 (i64 (c:Int))]) :=
 ⟨fun n hn=>(by rw [h] at hn; cases hn),fun _=>⟨m,c,hc,rfl⟩⟩
theorem AAV.yes {s:List UInt8} {n:Nat} (h:pU s=some n):AAV s (.tup [.val (.int .u64 (n:Int)),.val .nilIface]) :=
 ⟨fun m hm=>(by rw [h] at hm; cases hm; rfl),fun hn=>(by rw [h] at hn; cases hn)⟩
theorem BuR {s:List UInt8} {i:Nat} {b:UInt8} (h:s[i]?=some b) (hb:LK b=false):pU s=none:=by
 unfold pU
 rw [if_neg]
 rintro ⟨_,h2,_⟩
 have:=List.all_eq_true.1 h2 b (List.mem_of_getElem? h)
 rw [hb] at this; cases this
theorem BpD {s:List UInt8} {i:Nat} (h:4611686018427387904≤AeF 0 (s.take i)):pU s=none:=by
 unfold pU
 rw [if_neg]
 rintro ⟨_,_,h3⟩
 have:AeF 0 s=AeF (AeF 0 (s.take i)) (s.drop i):=by rw [←AaO,List.take_append_drop]
 have h4:=ABt (s.drop i) (AeF 0 (s.take i))
 omega
theorem QZ (b:UInt8):CE Tryz.prog 151 [by8 b] (fun r=>r = .val (.int .u8 ((b.toNat ||| 32:Nat):Int))):=by
 refine BD.toPureV (Acs (by simp) ?_)
 have hb:=b.toNat_lt
 simp -dsimp (disch:=first | assumption | omega | (simp only [Aa];try omega)) only [↓AB,Aj,AA,Az,eq_self,↓reduceIte,reduceCtorEq,↓Adl,Bwq]
theorem Bta (s:List UInt8) (hs:s.length≤1000000):CE Tryz.prog 123 [ts s,i64 ((10:Nat):Int),i64 ((62:Nat):Int)] (AAV s):=by
 refine BD.toPureV (G6 (by simp) ?_)
 by_cases h0:s=[]
 ·subst h0
  have hn:pU []=none:=by unfold pU; simp
  simp -dsimp (disch:=first | assumption | omega | (simp only [Aa];try omega)) only [↓AB,Aj,AA,Az,eq_self,Nat.reduceEqDiff,↓reduceIte,Nat.reduceAdd,reduceCtorEq,↓CW,↓CO,↓AV]
  exact AAV.no hn (.inr rfl)
 have hw1:IntKind.u64.wrap ((62:Nat):Int)=((62:Nat):Int):=Yx (by omega)
 simp -dsimp (disch:=first | assumption | omega | (simp only [Aa];try omega)) only [↓AB,Aj,AA,Az,eq_self,Nat.reduceLT,Nat.reduceEqDiff,↓reduceIte,Nat.reduceAdd,reduceCtorEq,Nat.reduceLeDiff,↓CW,↓CO,h0,↓E8,↓FD,↓E5,↓Fz,↓FO,↓FC]
 simp -dsimp (disch:=first | assumption | omega | (simp only [Aa];try omega)) only [↓AB,Aj,AA,Az,eq_self,Nat.reduceEqDiff,Nat.reduceSub,Nat.reduceMul,Nat.reducePow,↓reduceIte,reduceCtorEq,↓Fe,↓Fa,↓FH,hw1,AxO,AyQ,↓FK,↓FM,↓FB,A8,↓FP]
 refine FU (fun q e H=>∃ (i n:Nat),q=s.length - i∧i≤s.length∧(s.take i).all LK=true∧n=AeF 0 (s.take i)∧n<4611686018427387904∧H=[.obj 0 (.arr s.length 1 (s.map by8))] ∧
  e=[(1,i64 ((10:Nat):Int)),(8,tb false),(9,ts s),(10,.val (.int .u64 ((1844674407370955162:Nat):Int))),(11,.val (.int .u64 ((4611686018427387903:Nat):Int))),(12,tb false),(13,.val (.int .u64 (n:Int))),(99,.os 1 0 0 [] 0 s.length s.length),(100,i64 (s.length:Int)),(101,i64 (i:Int))]) s.length ?_ ?_
 ·refine ⟨0,0,?_,Nat.zero_le _,?_,?_,?_,?_,?_⟩
  ·simp
  ·rw [List.take_zero]; rfl
  ·rw [List.take_zero]; rfl
  ·omega
  ·simp
  ·simp [forget,get]
 ·rintro q e H ⟨i,n,rfl,hi,hall,hn,hnl,rfl,rfl⟩
  by_cases c:i<s.length
  ·have hg:s[i]?=some s[i]:=List.getElem?_eq_getElem c
   have hsucc:=List.take_succ_eq_append_getElem c
   generalize s[i]=b at *
   have hb:=b.toNat_lt
   have hnum:AeF 0 (s.take (i+1))=n*10+(b.toNat - 48):=by rw [hsucc,AaO,←hn]; rfl
   have hw10:IntKind.u8.wrap ((10:Nat):Int)=((10:Nat):Int):=by decide
   have hw10':IntKind.u64.wrap ((10:Nat):Int)=((10:Nat):Int):=by decide
   by_cases hd:48≤b.toNat∧b.toNat≤57
   ·have hisd:LK b=true:=by unfold LK; simp [hd]
    have h95:¬ b.toNat=95:=by omega
    have hwd:IntKind.u64.wrap ((b.toNat - 48:Nat):Int)=((b.toNat - 48:Nat):Int):=Yx (by omega)
    by_cases hc:1844674407370955162≤n
    ·have hno:=BpD (s:=s) (i:=i+1) (by rw [hnum]; omega)
     simp -dsimp (disch:=first | assumption | omega | (simp only [Aa];try omega)) only [↓AB,Aj,AA,Az,eq_self,Nat.reduceEqDiff,↓reduceIte,↓A7,↓AZ,↓Bh,hg,↓Bi,↓BA,h95,↓Bq,↓Bv,↓AY,Ux,↓BB,hw10,↓Ec,↓AV]
     exact AAV.no hno (.inl rfl)
    ·have hnl2:=hnl
     clear hnl
     have hn10:n*10<18446744073709551616:=by omega
     have hadd:∀ t,Jh t .add (.int .u64 ((n*10:Nat):Int)) (.int .u64 ((b.toNat - 48:Nat):Int))=some (.int .u64 (((n*10+(b.toNat - 48)) % 18446744073709551616:Nat):Int)):=fun t=>by
      rw [show Jh t .add (.int .u64 ((n*10:Nat):Int)) (.int .u64 ((b.toNat - 48:Nat):Int))=some (.int .u64 (IntKind.u64.wrap (((n*10:Nat):Int)+((b.toNat - 48:Nat):Int)))) from rfl,IntKind.wrap_u64]
      congr 2
     simp -dsimp (disch:=first | assumption | omega | (simp only [Aa];try omega)) only [↓AB,Aj,AA,Az,eq_self,Nat.reduceEqDiff,↓reduceIte,↓A7,↓AZ,↓Bh,hg,↓Bi,↓BA,h95,↓Bq,↓Bv,↓AY,Ux,↓BB,hw10,↓Ec,↓FQ,hw10',AuE,↓EZ,hwd,hadd,↓Fv]
     by_cases hbig:4611686018427387904≤n*10+(b.toNat - 48)
     ·have hno:=BpD (s:=s) (i:=i+1) (by rw [hnum]; exact hbig)
      by_cases hwr:(n*10+(b.toNat - 48)) % 18446744073709551616<n*10
      ·simp -dsimp (disch:=first | assumption | omega | (simp only [Aa];try omega)) only [↓AB,Aj,AA,Az,eq_self,Nat.reduceEqDiff,↓reduceIte,↓AV]
       exact AAV.no hno (.inl rfl)
      ·have hgt:(n*10+(b.toNat - 48)) % 18446744073709551616 > 4611686018427387903:=by omega
       simp -dsimp (disch:=first | assumption | omega | (simp only [Aa];try omega)) only [↓AB,Aj,AA,Az,eq_self,Nat.reduceEqDiff,↓reduceIte,↓AV]
       exact AAV.no hno (.inl rfl)
     ·have hmod:(n*10+(b.toNat - 48)) % 18446744073709551616=n*10+(b.toNat - 48):=Nat.mod_eq_of_lt (by omega)
      rw [hmod]
      simp -dsimp (disch:=first | assumption | omega | (simp only [Aa];try omega)) only [↓AB,Aj,AA,Az,eq_self,Nat.reduceEqDiff,↓reduceIte]
      exact BQ (s.length - (i+1)) (by omega) (by simp) ⟨i+1,n*10+(b.toNat - 48),rfl,by omega,by rw [hsucc,List.all_append,hall]; simp [hisd],hnum.symm,by omega,rfl,by simp [forget,get]⟩
   ·have hno:=BuR hg (show LK b=false by unfold LK; simp; omega)
    by_cases h95:b.toNat=95
    ·have hor:(b.toNat ||| 32)=127:=by rw [h95]; rfl
     simp -dsimp (disch:=first | assumption | omega | (simp only [Aa];try omega)) only [↓AB,Aj,AA,Az,eq_self,Nat.reduceEqDiff,↓reduceIte,Nat.reduceLeDiff,↓A7,↓AZ,↓Bh,hg,↓Bi,↓BA,h95,↓Bq,↓Bv,↓AY,↓BF]
     refine (QZ b).calls rfl fun r hr => ?_
     subst hr
     rw [hor]
     simp -dsimp (disch:=first | assumption | omega | (simp only [Aa];try omega)) only [↓AB,Aj,AA,Az,eq_self,Nat.reduceEqDiff,↓reduceIte,Nat.reduceLeDiff]
     refine (QZ b).calls rfl fun r hr => ?_
     subst hr
     rw [hor]
     simp -dsimp (disch:=first | assumption | omega | (simp only [Aa];try omega)) only [↓AB,Aj,AA,Az,eq_self,Nat.reduceEqDiff,↓reduceIte,Nat.reduceLeDiff,↓AV]
     exact AAV.no hno (.inr rfl)
    ·have hl:=Bxf b.toNat hb hd
     simp -dsimp (disch:=first | assumption | omega | (simp only [Aa];try omega)) only [↓AB,Aj,AA,Az,eq_self,Nat.reduceEqDiff,↓reduceIte,↓A7,↓AZ,↓Bh,hg,↓Bi,↓BA,h95,↓Bq,↓Bv]
     by_cases c48:48≤b.toNat
     ·have c57:¬ b.toNat≤57:=by omega
      simp -dsimp (disch:=first | assumption | omega | (simp only [Aa];try omega)) only [↓AB,Aj,AA,Az,eq_self,Nat.reduceEqDiff,↓reduceIte,↓AY,↓BF]
      refine (QZ b).calls rfl fun r hr => ?_
      subst hr
      have hlw:=QZ b
      generalize b.toNat ||| 32=x at *
      by_cases c97:97≤x
      ·simp -dsimp (disch:=first | assumption | omega | (simp only [Aa];try omega)) only [↓AB,Aj,AA,Az,eq_self,Nat.reduceEqDiff,↓reduceIte]
       refine hlw.calls rfl fun r hr => ?_
       subst hr
       by_cases c122:x≤122
       ·have h10:=hl c97 c122
        have hmod:(x - 97+10) % 256=x - 97+10:=Nat.mod_eq_of_lt (by omega)
        simp -dsimp (disch:=first | assumption | omega | (simp only [Aa];try omega)) only [↓AB,Aj,AA,Az,eq_self,Nat.reduceEqDiff,↓reduceIte]
        refine hlw.calls rfl fun r hr => ?_
        subst hr
        simp -dsimp (disch:=first | assumption | omega | (simp only [Aa];try omega)) only [↓AB,Aj,AA,Az,eq_self,Nat.reduceEqDiff,↓reduceIte,Nat.reduceLeDiff,Ux,Anb,hmod,↓BB,hw10,↓AV]
        exact AAV.no hno (.inr rfl)
       ·simp -dsimp (disch:=first | assumption | omega | (simp only [Aa];try omega)) only [↓AB,Aj,AA,Az,eq_self,Nat.reduceEqDiff,↓reduceIte,↓AV]
        exact AAV.no hno (.inr rfl)
      ·simp -dsimp (disch:=first | assumption | omega | (simp only [Aa];try omega)) only [↓AB,Aj,AA,Az,eq_self,Nat.reduceEqDiff,↓reduceIte,↓AV]
       exact AAV.no hno (.inr rfl)
     ·simp -dsimp (disch:=first | assumption | omega | (simp only [Aa];try omega)) only [↓AB,Aj,AA,Az,eq_self,Nat.reduceEqDiff,↓reduceIte,↓AY,↓BF]
      refine (QZ b).calls rfl fun r hr => ?_
      subst hr
      have hlw:=QZ b
      generalize b.toNat ||| 32=x at *
      by_cases c97:97≤x
      ·simp -dsimp (disch:=first | assumption | omega | (simp only [Aa];try omega)) only [↓AB,Aj,AA,Az,eq_self,Nat.reduceEqDiff,↓reduceIte]
       refine hlw.calls rfl fun r hr => ?_
       subst hr
       by_cases c122:x≤122
       ·have h10:=hl c97 c122
        have hmod:(x - 97+10) % 256=x - 97+10:=Nat.mod_eq_of_lt (by omega)
        simp -dsimp (disch:=first | assumption | omega | (simp only [Aa];try omega)) only [↓AB,Aj,AA,Az,eq_self,Nat.reduceEqDiff,↓reduceIte]
        refine hlw.calls rfl fun r hr => ?_
        subst hr
        simp -dsimp (disch:=first | assumption | omega | (simp only [Aa];try omega)) only [↓AB,Aj,AA,Az,eq_self,Nat.reduceEqDiff,↓reduceIte,Nat.reduceLeDiff,Ux,Anb,hmod,↓BB,hw10,↓AV]
        exact AAV.no hno (.inr rfl)
       ·simp -dsimp (disch:=first | assumption | omega | (simp only [Aa];try omega)) only [↓AB,Aj,AA,Az,eq_self,Nat.reduceEqDiff,↓reduceIte,↓AV]
        exact AAV.no hno (.inr rfl)
      ·simp -dsimp (disch:=first | assumption | omega | (simp only [Aa];try omega)) only [↓AB,Aj,AA,Az,eq_self,Nat.reduceEqDiff,↓reduceIte,↓AV]
       exact AAV.no hno (.inr rfl)
  ·have hi2:i=s.length:=by omega
   subst hi2
   rw [List.take_length] at hn hall
   have hyes:pU s=some n:=by unfold pU; rw [if_pos ⟨h0,hall,by rw [←hn]; exact hnl⟩,hn]
   simp -dsimp (disch:=first | assumption | omega | (simp only [Aa];try omega)) only [↓AB,Aj,AA,Az,eq_self,Nat.reduceEqDiff,↓reduceIte,↓A7,↓AZ,↓FI,↓AV]
   exact AAV.yes hyes
end
section
open Go.RowKit
variable [Cc]
class Ba [Cc]:Prop where
 k:∃ t a,P7 4=some (.one (.iface t (.pointer (some a))))
class Bd [Cc]:Prop where
 k:∃ t a,P7 5=some (.one (.iface t (.pointer (some a))))
theorem Ay4 {F:Nat→Prop} {w:World} (h:NL F w) {g:Nat} {v:Value} (e:P7 g=some (.one v)):w.cell? ⟨g,0,none⟩=some v:=by
 have:=h.at e 0 v rfl
 simpa using this
variable [Ba] [Bd]
theorem Bkp (fn s:List UInt8) (base bits:Int) (hs:s.length≤1000000) (c:Nat) (hc:c=1∨c=2):CE Tryz.prog 124 [ts fn,ts s,i64 base,i64 bits,.ifc 228 (i64 (c:Int))] (fun r=>r = .ifc 229 .any):=by
 intro β F w vs hF hv
 obtain ⟨v1,us,rfl,h1,hv⟩:=Ei.cons.1 hv
 obtain ⟨v2,us,rfl,h2,hv⟩:=Ei.cons.1 hv
 obtain ⟨v3,us,rfl,h3,hv⟩:=Ei.cons.1 hv
 obtain ⟨v4,us,rfl,h4,hv⟩:=Ei.cons.1 hv
 obtain ⟨v5,us,rfl,h5,hv⟩:=Ei.cons.1 hv
 rw [Ei.nil] at hv; subst hv
 obtain rfl:=Rep.val.1 (Or.inl h1:Rep _ _ _ _)
 obtain rfl:=Rep.val.1 (Or.inl h2:Rep _ _ _ _)
 obtain rfl:=Rep.val.1 (Or.inl h3:Rep _ _ _ _)
 obtain rfl:=Rep.val.1 (Or.inl h4:Rep _ _ _ _)
 have e5:v5 = .iface 228 (.int .i64 (c:Int)):=by
  rcases h5 with h5 | h5 | ⟨us,h5,rfl⟩
  ·cases h5
  ·cases h5
  ·rw [Bc] at h5
   obtain ⟨u,rfl,vs,h6,rfl⟩:=h5
   rw [Bc] at h6
   rw [h6.1]; rfl
 subst e5
 have hsz:(str s).size≤281474976710656:=by simp [str,ByteArray.size]; omega
 have fin:∀ e w',(∃ N,e=Ending.returned (.iface 229 (.pointer (some ⟨N,0,none⟩)))∧Below w.heap.size w w')→∃ v x F',e = .returned v∧x = .ifc 229 .any∧Rep ⟨β,[],F'⟩ w' x v∧Ags F w F' w':=by
  rintro e w' ⟨N,rfl,hb⟩
  refine ⟨_,_,F,rfl,rfl,Rep.of_cells (us:=[.iface 229 (.pointer (some ⟨N,0,none⟩))]) ?_,⟨hb.os,hb.tape,hb.output,hb.size,hb.block,fun _ h=>h,fun _ _ h=>h,fun b hb'=>Nat.lt_of_lt_of_le (hF.1 b hb') hb.size⟩⟩
  rw [Bc]
  refine ⟨_,rfl,[.pointer (some ⟨N,0,none⟩)],?_,rfl⟩
  rw [Bc]
  exact ⟨_,rfl,rfl⟩
 rcases hc with rfl | rfl
 ·obtain ⟨t,a,hk⟩:=Bd.k
  refine (Tryz.strconv_toError_range (str fn) (str s) base bits _ w hsz (Ay4 hF.2 hk) (.inr ⟨_,_,rfl⟩)).mono ?_
  rintro e w' ⟨N,rfl,_,_,hb⟩
  exact fin _ _ ⟨N,rfl,hb⟩
 ·obtain ⟨t,a,hk⟩:=Ba.k
  refine (Tryz.strconv_toError_syntax (str fn) (str s) base bits _ w hsz (Ay4 hF.2 hk) (.inr ⟨_,_,rfl⟩)).mono ?_
  rintro e w' ⟨N,rfl,_,_,hb⟩
  exact fin _ _ ⟨N,rfl,hb⟩
theorem AD2 (s:List UInt8) (hs:s.length≤1000000):CE Tryz.prog 89 [ts s,i64 ((10:Nat):Int),i64 ((62:Nat):Int)] (fun r=>(∀ n,pU s=some n→r = .tup [.val (.int .u64 (n:Int)),.val .nilIface])∧(pU s=none→∃ m:Nat,r = .tup [.val (.int .u64 (m:Int)),.ifc 229 .any])):=by
 refine BD.toPureV (NC (by simp) ?_)
 simp -dsimp (disch:=first | assumption | omega | (simp only [Aa];try omega)) only [↓AB,Aj,AA,Az,eq_self,Nat.reduceEqDiff,↓reduceIte,Nat.reduceAdd,reduceCtorEq,↓CQ]
 refine (Bta s hs).calls rfl fun r hr => ?_
 cases hp:pU s with
 | some n =>
  rw [hr.1 n hp]
  simp -dsimp (disch:=first | assumption | omega | (simp only [Aa];try omega)) only [↓AB,Aj,AA,Az,eq_self,Nat.reduceEqDiff,↓reduceIte,reduceCtorEq,↓CQ]
  exact ⟨fun m hm=>(by cases hm; rfl),fun h=>(by cases h)⟩
 | none =>
  obtain ⟨m,c,hc,rfl⟩:=hr.2 hp
  simp -dsimp (disch:=first | assumption | omega | (simp only [Aa];try omega)) only [↓AB,Aj,AA,Az,eq_self,Nat.reduceEqDiff,↓reduceIte,reduceCtorEq,↓CQ]
  refine (Bkp _ s _ _ hs c hc).calls rfl fun r hr => ?_
  subst hr
  simp -dsimp (disch:=first | assumption | omega | (simp only [Aa];try omega)) only [↓AB,Aj,AA,Az,eq_self,forall_const,Nat.reduceEqDiff,↓reduceIte,reduceCtorEq,↓CQ]
  exact ⟨fun n h=>h.elim,m,rfl⟩
end
section
open Go.RowKit
variable [Cc]
set_option maxHeartbeats 2000000 in
set_option maxRecDepth 100000 in
theorem Atj (a:Addr) (n c:Nat) (xs:List Int) (cv:Int) (w:World) (hx:xs.length=n) (hc:∀ i,i<n→w.cell? (a.add i)=some (.int .u8 (xs.getD i 0))) :
  Calls Tryz.prog 146 #[.slice (some a) n c,.int .u8 cv] w fun e w'=>e = .returned (.int .i64 (Lib.indexByte (Lib.bytesOf xs) cv.toNat.toUInt8))∧w'=w:=by
 go_enter Tryz.func146,Tryz.ntmps146
 go_wp2
 rw [run_callFunc_extern Tryz.func171 (by kernel_rfl) (by kernel_rfl) (by kernel_rfl) (e:=Extern.BytealgIndexByte.indexByte) (by kernel_rfl),Lib.run_indexByteAt w a n c xs hx hc cv]
 simp only [Result.andThen]
 rw [Oper.upon_value]
 go_wp2
 go_ret
 exact ⟨rfl,rfl⟩
set_option maxHeartbeats 2000000 in
set_option maxRecDepth 100000 in
theorem AyP (n c:Nat) (cv:Int) (w:World) :
  Calls Tryz.prog 146 #[.slice none n c,.int .u8 cv] w fun e w'=>e = .returned (.int .i64 (-1))∧w'=w:=by
 go_enter Tryz.func146,Tryz.ntmps146
 go_wp2
 rw [run_callFunc_extern Tryz.func171 (by kernel_rfl) (by kernel_rfl) (by kernel_rfl) (e:=Extern.BytealgIndexByte.indexByte) (by kernel_rfl),Lib.run_indexByteNil w n c cv]
 simp only [Result.andThen]
 rw [Oper.upon_value]
 go_wp2
 go_ret
 exact ⟨rfl,rfl⟩
theorem CE.indexByte (l:List UInt8) (c:UInt8):CE Tryz.prog 146 [slB l,by8 c] (fun x=>x = .val (.int .i64 (Lib.indexByte l c))):=by
 intro β F w vs hF hv
 obtain ⟨v,us,rfl,h1,hv⟩:=Ei.cons.1 hv
 obtain ⟨v2,us,rfl,h2,hv⟩:=Ei.cons.1 hv
 rw [Ei.nil] at hv; subst hv
 have h2':v2 = .int .u8 c.toNat:=by
  have:=Rep.val.1 (Or.inl h2:Rep _ _ _ _); exact this
 subst h2'
 have hcv:((c.toNat:Int)).toNat.toUInt8=c:=by
  rw [Int.toNat_natCast]; simp
 have fin:∀ e w',(e=Ending.returned (.int .i64 (Lib.indexByte l c))∧w'=w)→∃ v x F',e = .returned v∧x = .val (.int .i64 (Lib.indexByte l c))∧Rep ⟨β,[],F'⟩ w' x v∧Ags F w F' w':=by
  rintro e w' ⟨rfl,rfl⟩
  exact ⟨_,_,F,rfl,rfl,Rep.of_val,⟨rfl,rfl,rfl,Nat.le_refl _,fun _ _=>rfl,fun _ h=>h,fun _ _ h=>h,hF.1⟩⟩
 have hr0:Rep ⟨β,[],F⟩ w (slB l) v:=Or.inl h1
 have hr:=hr0.sl
 obtain ⟨hw,hr⟩:=hr
 rcases hr with ⟨he,ad,cap,rfl,_⟩ | ⟨b,off,cap,us,rfl,h3,h4,h5,h6,h7⟩
 ·have hl:l=[]:=by simpa using he
  subst hl
  cases ad with
  | none=>exact (AyP 0 cap _ w).mono fun e w' h=>fin e w' h
  | some ad =>
   refine (Atj ad 0 cap [] c.toNat w rfl (fun i hi=>by omega)).mono fun e w' h=>fin e w' ?_
   exact h
 ·have hb:=O4 (fun y hy=>by obtain ⟨b,_,rfl⟩:=List.mem_map.1 hy; exact AlU b) h6
  rw [AgL] at hb
  refine (Atj ⟨b,off,none⟩ (l.map by8).length cap (l.map fun b:UInt8=>(b.toNat:Int)) c.toNat w (by simp) (fun i hi => ?_)).mono fun e w' h=>fin e w' ?_
  ·rw [IW]
   have hi':i<l.length:=by simpa using hi
   refine h7 i _ ?_
   rw [hb,List.getElem?_map,List.getElem?_eq_getElem hi',List.getD_eq_getElem?_getD,List.getElem?_map,List.getElem?_eq_getElem hi']
   rfl
  ·rw [hcv] at h
   have:Lib.bytesOf (l.map fun b:UInt8=>(b.toNat:Int))=l:=by
    simp [Lib.bytesOf,List.map_map,Function.comp_def]
   rw [this] at h; exact h
end
section
open Go.RowKit
variable [Cc]
def QO (c:UInt8):List UInt8→Option Nat
 | []=>none
 | b::l=>if b=c then some 0 else (QO c l).map (· + 1)
theorem Nj {c:UInt8}:∀ {l:List UInt8} {i:Nat},QO c l=some i→i<l.length∧l[i]?=some c∧¬ c∈l.take i
 | [],i,h=>by cases h
 | b::l,i,h=>by
  rw [QO] at h
  split at h
  ·rename_i e; cases h; exact ⟨by simp,by simp [e],by simp⟩
  ·rename_i e
   obtain ⟨j,hj,rfl⟩:=Option.map_eq_some_iff.1 h
   obtain ⟨h1,h2,h3⟩:=Nj hj
   exact ⟨by simp; omega,by simpa using h2,by simp [h3,Ne.symm e]⟩
theorem Axx {c:UInt8}:∀ {l:List UInt8},QO c l=none→¬ c∈l
 | [],h=>by simp
 | b::l,h=>by
  rw [QO] at h
  split at h
  ·cases h
  ·rename_i e
   have:=Axx (Option.map_eq_none_iff.1 h)
   simp [this,Ne.symm e]
theorem Ar4 (c:UInt8):∀ l:List UInt8,Lib.indexByte l c=(match QO c l with | some i=>(i:Int) | none => -1):=by
 intro l
 induction l with
 | nil=>rfl
 | cons b l ih =>
  rw [Lib.indexByte,QO]
  by_cases e:b=c
  ·simp [e]
  ·rw [if_neg (by simpa using e),if_neg e,ih]
   cases hc:QO c l with
   | none=>simp
   | some i =>
    have:¬ ((i:Int) == -1)=true:=by simp
    simp only [Option.map_some]
    rw [if_neg this]; rfl
theorem BjD (s:List UInt8) (c:UInt8) (hs:s.length≤1000000):CE Tryz.prog 122 [slB s,slB [c]] (fun r=>r=i64 (Lib.indexByte s c)):=by
 refine BD.toPureV (AwA (by simp) ?_)
 simp -dsimp (disch:=first | assumption | omega | (simp only [Aa];try omega)) only [↓AB,Aj,AA,Az,eq_self,Nat.reduceEqDiff,↓reduceIte,Nat.reduceAdd,reduceCtorEq,↓Arv]
 refine (CE.indexByte s c).calls rfl fun r hr => ?_
 subst hr
 simp -dsimp (disch:=first | assumption | omega | (simp only [Aa];try omega)) only [↓AB,Aj,AA,Az,eq_self,↓reduceIte,↓Arv]
theorem Byt (s:List UInt8) (c:UInt8) (hs:s.length≤1000000):CE Tryz.prog 88 [slB s,slB [c]] (fun r=>(∀ i,QO c s=some i→r = .tup [slB (s.take i),slB (s.drop (i+1)),tb true])∧(QO c s=none→r = .tup [slB s,.val (.slice none 0 0),tb false])):=by
 refine BD.toPureV (AAU (by simp) ?_)
 simp -dsimp (disch:=first | assumption | omega | (simp only [Aa];try omega)) only [↓AB,Aj,AA,Az,eq_self,Nat.reduceEqDiff,↓reduceIte,Nat.reduceAdd,reduceCtorEq,↓Aqf]
 refine (BjD s c hs).calls rfl fun r hr => ?_
 subst hr
 rw [Ar4]
 cases hc:QO c s with
 | none =>
  simp only
  simp -dsimp (disch:=first | assumption | omega | (simp only [Aa];try omega)) only [↓AB,Aj,AA,Az,eq_self,forall_const,Nat.reduceEqDiff,↓reduceIte,reduceCtorEq,↓Aqf]
  exact fun i h=>h.elim
 | some i =>
  obtain ⟨h1,_,_⟩:=Nj hc
  simp only
  simp -dsimp (disch:=first | assumption | omega | (simp only [Aa];try omega)) only [↓AB,Aj,AA,Az,eq_self,Nat.reduceEqDiff,↓reduceIte,reduceCtorEq,↓Aqf]
  exact ⟨fun j h=>(by cases h; rfl),fun h=>h.elim⟩
theorem EX {k:Int} {s:List UInt8}:EK k=some s↔(k=1∧s=[99,111,109,109,105,116])∨(k=2∧s=[116,114,101,101])∨(k=3∧s=[98,108,111,98])∨(k=4∧s=[116,97,103]):=by
 unfold EK
 constructor
 ·intro h
  split at h
  ·cases h; exact .inl ⟨by assumption,rfl⟩
  ·split at h
   ·cases h; exact .inr (.inl ⟨by assumption,rfl⟩)
   ·split at h
    ·cases h; exact .inr (.inr (.inl ⟨by assumption,rfl⟩))
    ·split at h
     ·cases h; exact .inr (.inr (.inr ⟨by assumption,rfl⟩))
     ·cases h
 ·rintro (⟨rfl,rfl⟩ | ⟨rfl,rfl⟩ | ⟨rfl,rfl⟩ | ⟨rfl,rfl⟩)<;>rfl
theorem Brs [BI] (s:List UInt8):CE Tryz.prog 73 [ts s] (fun r=>(∀ k,EK k=some s→r = .tup [i64 k,tb true])∧((∀ k,EK k≠some s)→r = .tup [i64 ((0:Nat):Int),tb false])):=by
 refine BD.toPureV (Aus (by simp) ?_)
 have hk:=BI.k
 simp -dsimp (disch:=first | assumption | omega | (simp only [Aa];try omega)) only [↓AB,Aj,AA,Az,eq_self,Nat.reduceEqDiff,↓reduceIte,reduceCtorEq,↓Eb,hk,AC7]
 clear hk
 refine FU (fun q e H=>∃ i:Nat,q=5 - i∧i≤5∧(∀ k:Int,k<i→EK k≠some s)∧H=[] ∧
  e=[(0,ts s),(6,.arr 5 1 [ts [],ts [99,111,109,109,105,116],ts [116,114,101,101],ts [98,108,111,98],ts [116,97,103]]),(7,i64 (i:Int))]) 5 ?_ ?_
 ·exact ⟨0,rfl,by omega,fun k hk h=>by rw [EX] at h; omega,rfl,rfl⟩
 ·rintro q e H ⟨i,rfl,hi,hno,rfl,rfl⟩
  have next:∀ j:Int,(∀ k:Int,k<j→EK k≠some s)→EK j≠some s→∀ k:Int,k<j+1→EK k≠some s:=fun j h1 h2 k hk=>by
   by_cases e:k=j
   ·subst e; exact h2
   ·exact h1 k (by omega)
  obtain h | h | h | h | h | h:i=0∨i=1∨i=2∨i=3∨i=4∨i=5:=by omega
  ·subst h
   by_cases e0:([]:List UInt8)=s
   ·subst e0
    simp -dsimp (disch:=first | assumption | omega | (simp only [Aa];try omega)) only [↓AB,Aj,AA,Az,eq_self,Nat.reduceLT,Nat.reduceEqDiff,↓reduceIte,reduceCtorEq,↓Eb]
    exact BQ 4 (by omega) (by simp) ⟨1,rfl,by omega,next 0 hno (by rw [Ne,EX]; omega),rfl,by simp [forget,get]⟩
   ·simp -dsimp (disch:=first | assumption | omega | (simp only [Aa];try omega)) only [↓AB,Aj,AA,Az,eq_self,Nat.reduceLT,Nat.reduceEqDiff,↓reduceIte,reduceCtorEq,↓Eb,e0]
    exact BQ 4 (by omega) (by simp) ⟨1,rfl,by omega,next 0 hno (by rw [Ne,EX]; omega),rfl,by simp [forget,get]⟩
  ·subst h
   by_cases e0:([99,111,109,109,105,116]:List UInt8)=s
   ·subst e0
    simp -dsimp (disch:=first | assumption | omega | (simp only [Aa];try omega)) only [↓AB,Aj,AA,Az,eq_self,Nat.reduceLT,Nat.reduceEqDiff,↓reduceIte,reduceCtorEq,↓Eb]
    exact ⟨fun k h=>(by rw [EX] at h; simp at h; rw [h]; rfl),fun h=>absurd (EX.2 (by simp)) (h 1)⟩
   ·simp -dsimp (disch:=first | assumption | omega | (simp only [Aa];try omega)) only [↓AB,Aj,AA,Az,eq_self,Nat.reduceLT,Nat.reduceEqDiff,Nat.reduceSub,↓reduceIte,Nat.reduceAdd,reduceCtorEq,↓Eb,e0]
    exact BQ 3 (by omega) (by simp) ⟨2,rfl,by omega,next 1 hno (by rw [Ne,EX]; rintro (h | h | h | h)<;>first | omega | exact e0 h.2.symm),rfl,by simp [forget,get]⟩
  ·subst h
   by_cases e0:([116,114,101,101]:List UInt8)=s
   ·subst e0
    simp -dsimp (disch:=first | assumption | omega | (simp only [Aa];try omega)) only [↓AB,Aj,AA,Az,eq_self,Nat.reduceLT,Nat.reduceEqDiff,↓reduceIte,reduceCtorEq,↓Eb]
    exact ⟨fun k h=>(by rw [EX] at h; simp at h; rw [h]; rfl),fun h=>absurd (EX.2 (by simp)) (h 2)⟩
   ·simp -dsimp (disch:=first | assumption | omega | (simp only [Aa];try omega)) only [↓AB,Aj,AA,Az,eq_self,Nat.reduceLT,Nat.reduceEqDiff,Nat.reduceSub,↓reduceIte,Nat.reduceAdd,reduceCtorEq,↓Eb,e0]
    exact BQ 2 (by omega) (by simp) ⟨3,rfl,by omega,next 2 hno (by rw [Ne,EX]; rintro (h | h | h | h)<;>first | omega | exact e0 h.2.symm),rfl,by simp [forget,get]⟩
  ·subst h
   by_cases e0:([98,108,111,98]:List UInt8)=s
   ·subst e0
    simp -dsimp (disch:=first | assumption | omega | (simp only [Aa];try omega)) only [↓AB,Aj,AA,Az,eq_self,Nat.reduceLT,Nat.reduceEqDiff,↓reduceIte,reduceCtorEq,↓Eb]
    exact ⟨fun k h=>(by rw [EX] at h; simp at h; rw [h]; rfl),fun h=>absurd (EX.2 (by simp)) (h 3)⟩
   ·simp -dsimp (disch:=first | assumption | omega | (simp only [Aa];try omega)) only [↓AB,Aj,AA,Az,eq_self,Nat.reduceLT,Nat.reduceEqDiff,Nat.reduceSub,↓reduceIte,Nat.reduceAdd,reduceCtorEq,↓Eb,e0]
    exact BQ 1 (by omega) (by simp) ⟨4,rfl,by omega,next 3 hno (by rw [Ne,EX]; rintro (h | h | h | h)<;>first | omega | exact e0 h.2.symm),rfl,by simp [forget,get]⟩
  ·subst h
   by_cases e0:([116,97,103]:List UInt8)=s
   ·subst e0
    simp -dsimp (disch:=first | assumption | omega | (simp only [Aa];try omega)) only [↓AB,Aj,AA,Az,eq_self,Nat.reduceLT,Nat.reduceEqDiff,↓reduceIte,reduceCtorEq,↓Eb]
    exact ⟨fun k h=>(by rw [EX] at h; simp at h; rw [h]; rfl),fun h=>absurd (EX.2 (by simp)) (h 4)⟩
   ·simp -dsimp (disch:=first | assumption | omega | (simp only [Aa];try omega)) only [↓AB,Aj,AA,Az,eq_self,Nat.reduceLT,Nat.reduceEqDiff,Nat.reduceSub,↓reduceIte,Nat.reduceAdd,reduceCtorEq,↓Eb,e0]
    exact BQ 0 (by omega) (by simp) ⟨5,rfl,by omega,next 4 hno (by rw [Ne,EX]; rintro (h | h | h | h)<;>first | omega | exact e0 h.2.symm),rfl,by simp [forget,get]⟩
  ·subst h
   simp -dsimp (disch:=first | assumption | omega | (simp only [Aa];try omega)) only [↓AB,Aj,AA,Az,eq_self,Nat.reduceLT,Nat.reduceEqDiff,↓reduceIte,reduceCtorEq,↓Eb]
   exact ⟨fun k h=>absurd h (by by_cases h5:k<5<;>first | exact hno k h5 | (rw [EX]; omega)),fun _=>by trivial⟩
section
variable [AX] [Ba] [Bd]
def Zi (s:List UInt8):Option Nat:=match pU s with
 | some n=>if Lib.decDigits n=s then some n else none
 | none=>none
theorem Bon (s:List UInt8) (hs:s.length≤1000000):CE Tryz.prog 137 [ts s] (fun r=>(∀ n,Zi s=some n→r = .tup [i64 (n:Int),tb true])∧(Zi s=none→∃ z,r = .tup [i64 z,tb false])):=by
 refine BD.toPureV (AsJ (by simp) ?_)
 simp -dsimp (disch:=first | assumption | omega | (simp only [Aa];try omega)) only [↓AB,Aj,AA,Az,eq_self,↓reduceIte,reduceCtorEq,↓Wn]
 refine (AD2 s hs).calls rfl fun r hr => ?_
 cases hp:pU s with
 | none =>
  obtain ⟨m,rfl⟩:=hr.2 hp
  have hd:Zi s=none:=by unfold Zi; rw [hp]
  simp -dsimp (disch:=first | assumption | omega | (simp only [Aa];try omega)) only [↓AB,Aj,AA,Az,eq_self,Nat.reduceEqDiff,↓reduceIte,reduceCtorEq,↓Wn]
  rw [hd]
  exact ⟨fun n h=>(by cases h),fun _=>⟨_,rfl⟩⟩
 | some n =>
  rw [hr.1 n hp]
  have hn:n<4611686018427387904:=by
   unfold pU at hp
   split at hp
   ·rename_i h; cases hp; exact h.2.2
   ·cases hp
  have hw:IntKind.i64.wrap (n:Int)=(n:Int):=Gl (by omega) (by omega)
  simp -dsimp (disch:=first | assumption | omega | (simp only [Aa];try omega)) only [↓AB,Aj,AA,Az,eq_self,Nat.reduceEqDiff,↓reduceIte,reduceCtorEq,hw]
  refine (AB2 n (by omega)).calls rfl fun r hr => ?_
  subst hr
  simp -dsimp (disch:=first | assumption | omega | (simp only [Aa];try omega)) only [↓AB,Aj,AA,Az,eq_self,Nat.reduceEqDiff,↓reduceIte,reduceCtorEq,↓Wn]
  unfold Zi
  rw [hp]
  simp only
  by_cases hs2:Lib.decDigits n=s
  ·rw [if_pos hs2,decide_eq_true hs2]
   exact ⟨fun m h=>(by cases h; rfl),fun h=>(by cases h)⟩
  ·rw [if_neg hs2,decide_eq_false hs2]
   exact ⟨fun m h=>(by cases h),fun _=>⟨_,rfl⟩⟩
end
end
section
open Go.RowKit
variable [Cc]
theorem Akc {k:Nat} (hk:k<10):LK (UInt8.ofNat (48+k))=true∧(UInt8.ofNat (48+k)).toNat - 48=k:=by
 have:(UInt8.ofNat (48+k)).toNat=48+k:=by rw [UInt8.toNat_ofNat']; omega
 unfold LK
 rw [this]
 exact ⟨by simp; omega,by omega⟩
theorem ADu (n:Nat) (c:UInt8):AeF n [c]=n*10+(c.toNat - 48):=rfl
theorem AyF:∀ n:Nat,(Lib.decDigits n).all LK=true∧AeF 0 (Lib.decDigits n)=n:=by
 intro n
 induction n using Nat.strongRecOn with
 | _ n ih =>
  by_cases h:n<10
  ·obtain ⟨h1,h2⟩:=Akc h
   rw [Lib.decDigits_one h,ADu,h2,List.all_cons,h1]
   exact ⟨rfl,by omega⟩
  ·obtain ⟨h1,h2⟩:=ih (n / 10) (by omega)
   obtain ⟨h3,h4⟩:=Akc (k:=n % 10) (by omega)
   rw [Lib.decDigits.eq_1 n,dif_neg h,List.all_append,AaO,ADu,h1,h2,h4,List.all_cons,h3]
   exact ⟨rfl,by omega⟩
theorem ADo (n:Nat):Lib.decDigits n≠[]:=by
 rw [Lib.decDigits.eq_1]
 split<;>simp
theorem AEU {n:Nat} (h:n<4611686018427387904):Zi (Lib.decDigits n)=some n:=by
 obtain ⟨h1,h2⟩:=AyF n
 have:pU (Lib.decDigits n)=some n:=by
  unfold pU
  rw [if_pos ⟨ADo n,h1,by rw [h2]; exact h⟩,h2]
 unfold Zi
 rw [this]
 simp
theorem Akd {c:UInt8}:∀ {l m:List UInt8},¬ c∈l→QO c (l++c::m)=some l.length
 | [],m,_=>by simp [QO]
 | b::l,m,h=>by
  rw [List.cons_append,QO,if_neg (fun e=>h (by simp [e])),Akd (fun hm=>h (List.mem_cons_of_mem _ hm))]
  simp
end
section
open Go.RowKit
variable [Cc]
def pV (s:List UInt8):Option Nat:=if s≠[]∧s.all LK∧AeF 0 s<1048576 then some (AeF 0 s) else none
def AAZ (s:List UInt8) (r:TV):Prop:=(∀ n,pV s=some n→r = .tup [.val (.int .u64 (n:Int)),.val .nilIface])∧(pV s=none→∃ m c:Nat,m≤1048575∧(c=1∨c=2)∧r = .tup [.val (.int .u64 (m:Int)),.ifc 228 (i64 (c:Int))])
theorem AAZ.no {s:List UInt8} (h:pV s=none) {m c:Nat} (hc:c=1∨c=2) (hm:m≤1048575:=by omega):AAZ s (.tup [.val (.int .u64 (m:Int)),.ifc 228 (i64 (c:Int))]) :=
 ⟨fun n hn=>(by rw [h] at hn; cases hn),fun _=>⟨m,c,hm,hc,rfl⟩⟩
theorem AAZ.yes {s:List UInt8} {n:Nat} (h:pV s=some n):AAZ s (.tup [.val (.int .u64 (n:Int)),.val .nilIface]) :=
 ⟨fun m hm=>(by rw [h] at hm; cases hm; rfl),fun hn=>(by rw [h] at hn; cases hn)⟩
theorem BuU {s:List UInt8} {i:Nat} {b:UInt8} (h:s[i]?=some b) (hb:LK b=false):pV s=none:=by
 unfold pV
 rw [if_neg]
 rintro ⟨_,h2,_⟩
 have:=List.all_eq_true.1 h2 b (List.mem_of_getElem? h)
 rw [hb] at this; cases this
theorem Btu {s:List UInt8} {i:Nat} (h:1048576≤AeF 0 (s.take i)):pV s=none:=by
 unfold pV
 rw [if_neg]
 rintro ⟨_,_,h3⟩
 have:AeF 0 s=AeF (AeF 0 (s.take i)) (s.drop i):=by rw [←AaO,List.take_append_drop]
 have h4:=ABt (s.drop i) (AeF 0 (s.take i))
 omega
theorem Bu5 (s:List UInt8) (hs:s.length≤1000000):CE Tryz.prog 123 [ts s,i64 ((10:Nat):Int),i64 ((20:Nat):Int)] (AAZ s):=by
 refine BD.toPureV (G6 (by simp) ?_)
 by_cases h0:s=[]
 ·subst h0
  have hn:pV []=none:=by unfold pV; simp
  simp -dsimp (disch:=first | assumption | omega | (simp only [Aa];try omega)) only [↓AB,Aj,AA,Az,eq_self,Nat.reduceEqDiff,↓reduceIte,Nat.reduceAdd,reduceCtorEq,↓CW,↓CO,↓AV]
  exact AAZ.no hn (.inr rfl)
 have hw1:IntKind.u64.wrap ((20:Nat):Int)=((20:Nat):Int):=Yx (by omega)
 simp -dsimp (disch:=first | assumption | omega | (simp only [Aa];try omega)) only [↓AB,Aj,AA,Az,eq_self,Nat.reduceLT,Nat.reduceEqDiff,↓reduceIte,Nat.reduceAdd,reduceCtorEq,Nat.reduceLeDiff,↓CW,↓CO,h0,↓E8,↓FD,↓E5,↓Fz,↓FO,↓FC]
 simp -dsimp (disch:=first | assumption | omega | (simp only [Aa];try omega)) only [↓AB,Aj,AA,Az,eq_self,Nat.reduceEqDiff,Nat.reduceSub,Nat.reduceMul,Nat.reducePow,↓reduceIte,reduceCtorEq,↓Fe,↓Fa,↓FH,hw1,AxO,AyQ,↓FK,↓FM,↓FB,A8,↓FP]
 refine FU (fun q e H=>∃ (i n:Nat),q=s.length - i∧i≤s.length∧(s.take i).all LK=true∧n=AeF 0 (s.take i)∧n<1048576∧H=[.obj 0 (.arr s.length 1 (s.map by8))] ∧
  e=[(1,i64 ((10:Nat):Int)),(8,tb false),(9,ts s),(10,.val (.int .u64 ((1844674407370955162:Nat):Int))),(11,.val (.int .u64 ((1048575:Nat):Int))),(12,tb false),(13,.val (.int .u64 (n:Int))),(99,.os 1 0 0 [] 0 s.length s.length),(100,i64 (s.length:Int)),(101,i64 (i:Int))]) s.length ?_ ?_
 ·refine ⟨0,0,?_,Nat.zero_le _,?_,?_,?_,?_,?_⟩
  ·simp
  ·rw [List.take_zero]; rfl
  ·rw [List.take_zero]; rfl
  ·omega
  ·simp
  ·simp [forget,get]
 ·rintro q e H ⟨i,n,rfl,hi,hall,hn,hnl,rfl,rfl⟩
  by_cases c:i<s.length
  ·have hg:s[i]?=some s[i]:=List.getElem?_eq_getElem c
   have hsucc:=List.take_succ_eq_append_getElem c
   generalize s[i]=b at *
   have hb:=b.toNat_lt
   have hnum:AeF 0 (s.take (i+1))=n*10+(b.toNat - 48):=by rw [hsucc,AaO,←hn]; rfl
   have hw10:IntKind.u8.wrap ((10:Nat):Int)=((10:Nat):Int):=by decide
   have hw10':IntKind.u64.wrap ((10:Nat):Int)=((10:Nat):Int):=by decide
   by_cases hd:48≤b.toNat∧b.toNat≤57
   ·have hisd:LK b=true:=by unfold LK; simp [hd]
    have h95:¬ b.toNat=95:=by omega
    have hwd:IntKind.u64.wrap ((b.toNat - 48:Nat):Int)=((b.toNat - 48:Nat):Int):=Yx (by omega)
    by_cases hc:1844674407370955162≤n
    ·exact absurd hc (by omega)
    ·have hnl2:=hnl
     clear hnl
     have hn10:n*10<18446744073709551616:=by omega
     have hadd:∀ t,Jh t .add (.int .u64 ((n*10:Nat):Int)) (.int .u64 ((b.toNat - 48:Nat):Int))=some (.int .u64 (((n*10+(b.toNat - 48)) % 18446744073709551616:Nat):Int)):=fun t=>by
      rw [show Jh t .add (.int .u64 ((n*10:Nat):Int)) (.int .u64 ((b.toNat - 48:Nat):Int))=some (.int .u64 (IntKind.u64.wrap (((n*10:Nat):Int)+((b.toNat - 48:Nat):Int)))) from rfl,IntKind.wrap_u64]
      congr 2
     simp -dsimp (disch:=first | assumption | omega | (simp only [Aa];try omega)) only [↓AB,Aj,AA,Az,eq_self,Nat.reduceEqDiff,↓reduceIte,↓A7,↓AZ,↓Bh,hg,↓Bi,↓BA,h95,↓Bq,↓Bv,↓AY,Ux,↓BB,hw10,↓Ec,↓FQ,hw10',AuE,↓EZ,hwd,hadd,↓Fv]
     by_cases hbig:1048576≤n*10+(b.toNat - 48)
     ·have hno:=Btu (s:=s) (i:=i+1) (by rw [hnum]; exact hbig)
      by_cases hwr:(n*10+(b.toNat - 48)) % 18446744073709551616<n*10
      ·simp -dsimp (disch:=first | assumption | omega | (simp only [Aa];try omega)) only [↓AB,Aj,AA,Az,eq_self,Nat.reduceEqDiff,↓reduceIte,↓AV]
       exact AAZ.no hno (.inl rfl)
      ·have hgt:(n*10+(b.toNat - 48)) % 18446744073709551616 > 1048575:=by omega
       simp -dsimp (disch:=first | assumption | omega | (simp only [Aa];try omega)) only [↓AB,Aj,AA,Az,eq_self,Nat.reduceEqDiff,↓reduceIte,↓AV]
       exact AAZ.no hno (.inl rfl)
     ·have hmod:(n*10+(b.toNat - 48)) % 18446744073709551616=n*10+(b.toNat - 48):=Nat.mod_eq_of_lt (by omega)
      rw [hmod]
      simp -dsimp (disch:=first | assumption | omega | (simp only [Aa];try omega)) only [↓AB,Aj,AA,Az,eq_self,Nat.reduceEqDiff,↓reduceIte]
      exact BQ (s.length - (i+1)) (by omega) (by simp) ⟨i+1,n*10+(b.toNat - 48),rfl,by omega,by rw [hsucc,List.all_append,hall]; simp [hisd],hnum.symm,by omega,rfl,by simp [forget,get]⟩
   ·have hno:=BuU hg (show LK b=false by unfold LK; simp; omega)
    by_cases h95:b.toNat=95
    ·have hor:(b.toNat ||| 32)=127:=by rw [h95]; rfl
     simp -dsimp (disch:=first | assumption | omega | (simp only [Aa];try omega)) only [↓AB,Aj,AA,Az,eq_self,Nat.reduceEqDiff,↓reduceIte,Nat.reduceLeDiff,↓A7,↓AZ,↓Bh,hg,↓Bi,↓BA,h95,↓Bq,↓Bv,↓AY,↓BF]
     refine (QZ b).calls rfl fun r hr => ?_
     subst hr
     rw [hor]
     simp -dsimp (disch:=first | assumption | omega | (simp only [Aa];try omega)) only [↓AB,Aj,AA,Az,eq_self,Nat.reduceEqDiff,↓reduceIte,Nat.reduceLeDiff]
     refine (QZ b).calls rfl fun r hr => ?_
     subst hr
     rw [hor]
     simp -dsimp (disch:=first | assumption | omega | (simp only [Aa];try omega)) only [↓AB,Aj,AA,Az,eq_self,Nat.reduceEqDiff,↓reduceIte,Nat.reduceLeDiff,↓AV]
     exact AAZ.no hno (.inr rfl)
    ·have hl:=Bxf b.toNat hb hd
     simp -dsimp (disch:=first | assumption | omega | (simp only [Aa];try omega)) only [↓AB,Aj,AA,Az,eq_self,Nat.reduceEqDiff,↓reduceIte,↓A7,↓AZ,↓Bh,hg,↓Bi,↓BA,h95,↓Bq,↓Bv]
     by_cases c48:48≤b.toNat
     ·have c57:¬ b.toNat≤57:=by omega
      simp -dsimp (disch:=first | assumption | omega | (simp only [Aa];try omega)) only [↓AB,Aj,AA,Az,eq_self,Nat.reduceEqDiff,↓reduceIte,↓AY,↓BF]
      refine (QZ b).calls rfl fun r hr => ?_
      subst hr
      have hlw:=QZ b
      generalize b.toNat ||| 32=x at *
      by_cases c97:97≤x
      ·simp -dsimp (disch:=first | assumption | omega | (simp only [Aa];try omega)) only [↓AB,Aj,AA,Az,eq_self,Nat.reduceEqDiff,↓reduceIte]
       refine hlw.calls rfl fun r hr => ?_
       subst hr
       by_cases c122:x≤122
       ·have h10:=hl c97 c122
        have hmod:(x - 97+10) % 256=x - 97+10:=Nat.mod_eq_of_lt (by omega)
        simp -dsimp (disch:=first | assumption | omega | (simp only [Aa];try omega)) only [↓AB,Aj,AA,Az,eq_self,Nat.reduceEqDiff,↓reduceIte]
        refine hlw.calls rfl fun r hr => ?_
        subst hr
        simp -dsimp (disch:=first | assumption | omega | (simp only [Aa];try omega)) only [↓AB,Aj,AA,Az,eq_self,Nat.reduceEqDiff,↓reduceIte,Nat.reduceLeDiff,Ux,Anb,hmod,↓BB,hw10,↓AV]
        exact AAZ.no hno (.inr rfl)
       ·simp -dsimp (disch:=first | assumption | omega | (simp only [Aa];try omega)) only [↓AB,Aj,AA,Az,eq_self,Nat.reduceEqDiff,↓reduceIte,↓AV]
        exact AAZ.no hno (.inr rfl)
      ·simp -dsimp (disch:=first | assumption | omega | (simp only [Aa];try omega)) only [↓AB,Aj,AA,Az,eq_self,Nat.reduceEqDiff,↓reduceIte,↓AV]
       exact AAZ.no hno (.inr rfl)
     ·simp -dsimp (disch:=first | assumption | omega | (simp only [Aa];try omega)) only [↓AB,Aj,AA,Az,eq_self,Nat.reduceEqDiff,↓reduceIte,↓AY,↓BF]
      refine (QZ b).calls rfl fun r hr => ?_
      subst hr
      have hlw:=QZ b
      generalize b.toNat ||| 32=x at *
      by_cases c97:97≤x
      ·simp -dsimp (disch:=first | assumption | omega | (simp only [Aa];try omega)) only [↓AB,Aj,AA,Az,eq_self,Nat.reduceEqDiff,↓reduceIte]
       refine hlw.calls rfl fun r hr => ?_
       subst hr
       by_cases c122:x≤122
       ·have h10:=hl c97 c122
        have hmod:(x - 97+10) % 256=x - 97+10:=Nat.mod_eq_of_lt (by omega)
        simp -dsimp (disch:=first | assumption | omega | (simp only [Aa];try omega)) only [↓AB,Aj,AA,Az,eq_self,Nat.reduceEqDiff,↓reduceIte]
        refine hlw.calls rfl fun r hr => ?_
        subst hr
        simp -dsimp (disch:=first | assumption | omega | (simp only [Aa];try omega)) only [↓AB,Aj,AA,Az,eq_self,Nat.reduceEqDiff,↓reduceIte,Nat.reduceLeDiff,Ux,Anb,hmod,↓BB,hw10,↓AV]
        exact AAZ.no hno (.inr rfl)
       ·simp -dsimp (disch:=first | assumption | omega | (simp only [Aa];try omega)) only [↓AB,Aj,AA,Az,eq_self,Nat.reduceEqDiff,↓reduceIte,↓AV]
        exact AAZ.no hno (.inr rfl)
      ·simp -dsimp (disch:=first | assumption | omega | (simp only [Aa];try omega)) only [↓AB,Aj,AA,Az,eq_self,Nat.reduceEqDiff,↓reduceIte,↓AV]
       exact AAZ.no hno (.inr rfl)
  ·have hi2:i=s.length:=by omega
   subst hi2
   rw [List.take_length] at hn hall
   have hyes:pV s=some n:=by unfold pV; rw [if_pos ⟨h0,hall,by rw [←hn]; exact hnl⟩,hn]
   simp -dsimp (disch:=first | assumption | omega | (simp only [Aa];try omega)) only [↓AB,Aj,AA,Az,eq_self,Nat.reduceEqDiff,↓reduceIte,↓A7,↓AZ,↓FI,↓AV]
   exact AAZ.yes hyes
variable [Ba] [Bd]
theorem AAW (s:List UInt8) (hs:s.length≤1000000):CE Tryz.prog 89 [ts s,i64 ((10:Nat):Int),i64 ((20:Nat):Int)] (fun r=>(∀ n,pV s=some n→r = .tup [.val (.int .u64 (n:Int)),.val .nilIface])∧(pV s=none→∃ m:Nat,m≤1048575∧r = .tup [.val (.int .u64 (m:Int)),.ifc 229 .any])):=by
 refine BD.toPureV (NC (by simp) ?_)
 simp -dsimp (disch:=first | assumption | omega | (simp only [Aa];try omega)) only [↓AB,Aj,AA,Az,eq_self,Nat.reduceEqDiff,↓reduceIte,Nat.reduceAdd,reduceCtorEq,↓CQ]
 refine (Bu5 s hs).calls rfl fun r hr => ?_
 cases hp:pV s with
 | some n =>
  rw [hr.1 n hp]
  simp -dsimp (disch:=first | assumption | omega | (simp only [Aa];try omega)) only [↓AB,Aj,AA,Az,eq_self,Nat.reduceEqDiff,↓reduceIte,reduceCtorEq,↓CQ]
  exact ⟨fun m hm=>(by cases hm; rfl),fun h=>(by cases h)⟩
 | none =>
  obtain ⟨m,c,hm,hc,rfl⟩:=hr.2 hp
  simp -dsimp (disch:=first | assumption | omega | (simp only [Aa];try omega)) only [↓AB,Aj,AA,Az,eq_self,Nat.reduceEqDiff,↓reduceIte,reduceCtorEq,↓CQ]
  refine (Bkp _ s _ _ hs c hc).calls rfl fun r hr => ?_
  subst hr
  simp -dsimp (disch:=first | assumption | omega | (simp only [Aa];try omega)) only [↓AB,Aj,AA,Az,eq_self,forall_const,Nat.reduceEqDiff,↓reduceIte,reduceCtorEq,↓CQ]
  exact ⟨fun n h=>h.elim,m,hm,rfl⟩
end
section
open Go.RowKit
variable [Cc]
section
omit [Cc]
structure Per where
 name:List UInt8
 mail:List UInt8
 time:Int
 zone:Int
def MV (s:List UInt8):Prop:=s.length≤60∧(∀ c∈s,c≠60∧c≠62∧c≠10∧c≠0)∧s[0]?≠some 32∧s[s.length - 1]?≠some 32
instance (s:List UInt8):Decidable (MV s):=by unfold MV; infer_instance
def EW (p:Per):Prop:=MV p.name∧MV p.mail∧0≤p.time∧p.time≤1099511627776 ∧ -840≤p.zone∧p.zone≤840
instance (p:Per):Decidable (EW p):=by unfold EW; infer_instance
def AmS (z:Nat):List UInt8:=[UInt8.ofNat (48+z / 60 / 10),UInt8.ofNat (48+z / 60 % 10),UInt8.ofNat (48+z % 60 / 10),UInt8.ofNat (48+z % 60 % 10)]
def Aqw (z:Int):UInt8:=if z<0 then 45 else 43
def LH (p:Per):List UInt8:=Aqw p.zone::AmS p.zone.natAbs
def I8 (p:Per):List UInt8:=p.name++([32,60]++(p.mail++([62,32]++(Lib.decDigits p.time.toNat++([32]++LH p)))))
theorem Bph {a sep b:List UInt8} (h:∀ j,j<a.length→Lib.occAt (a++(sep++b)) sep j=false):Lib.cut (a++(sep++b)) sep=(a,b,true):=by
 have hi:Lib.index (a++(sep++b)) sep=(a.length:Int):=Lib.index_first (by simp) (by simp [Lib.occAt,List.isPrefixOf_iff_prefix]) h
 unfold Lib.cut
 rw [hi,if_pos (by omega)]
 simp only [Int.toNat_natCast,List.take_left]
 rw [←List.drop_drop,List.drop_left,List.drop_left]
theorem ACJ {s t:List UInt8} {x:UInt8} {j:Nat} (h:Lib.occAt s (x::t) j=true):s[j]?=some x∧∀ y r,t=y::r→s[j+1]?=some y:=by
 rw [Lib.occAt,List.isPrefixOf_iff_prefix] at h
 obtain ⟨u,hu⟩:=h
 constructor
 ·have:=congrArg (·[0]?) hu
  simpa using this.symm
 ·rintro y r rfl
  have:=congrArg (·[1]?) hu
  simpa using this.symm
theorem AAg {a t b:List UInt8} {x:UInt8} (h:x∉a):Lib.cut (a++((x::t)++b)) (x::t)=(a,b,true):=Bph fun j hj=>by
 cases hc:Lib.occAt (a++((x::t)++b)) (x::t) j with
 | false=>rfl
 | true =>
 exfalso
 have:=(ACJ hc).1
 rw [List.getElem?_append_left hj] at this
 exact h (List.mem_of_getElem? this)
theorem ADH {a b:List UInt8} {x y:UInt8} (h:y∉a) (hxy:x≠y):Lib.cut (a++([x,y]++b)) [x,y]=(a,b,true):=Bph fun j hj=>by
 cases hc:Lib.occAt (a++([x,y]++b)) [x,y] j with
 | false=>rfl
 | true =>
 exfalso
 have:=(ACJ hc).2 y [] rfl
 by_cases hl:j+1<a.length
 ·rw [List.getElem?_append_left hl] at this
  exact h (List.mem_of_getElem? this)
 ·have e:j+1=a.length:=by omega
  rw [e,List.getElem?_append_right (by omega)] at this
  simp at this
  exact hxy this
end
theorem BiZ (n:Nat) (c:UInt8) (h:c∈Lib.decDigits n):48≤c.toNat∧c.toNat≤57:=by
 have:=List.all_eq_true.1 (AyF n).1 c h
 unfold LK at this
 simpa using this
theorem Ayj {p:Per} (h:EW p):Lib.cut (I8 p) [32,60]=(p.name,p.mail++([62,32]++(Lib.decDigits p.time.toNat++([32]++LH p))),true)
  ∧ Lib.cut (p.mail++([62,32]++(Lib.decDigits p.time.toNat++([32]++LH p)))) [62,32]=(p.mail,Lib.decDigits p.time.toNat++([32]++LH p),true)
  ∧ Lib.cut (Lib.decDigits p.time.toNat++([32]++LH p)) [32]=(Lib.decDigits p.time.toNat,LH p,true)
  ∧ Zi (Lib.decDigits p.time.toNat)=some p.time.toNat:=by
 obtain ⟨h1,h2,h3,h4,_,_⟩:=h
 refine ⟨ADH (fun hm=>(h1.2.1 _ hm).1 rfl) (by decide),AAg (fun hm=>(h2.2.1 _ hm).2.1 rfl),AAg (fun hm=>by have:=BiZ _ _ hm; simp at this),AEU (by omega)⟩
theorem Bxr {n:Nat} (h1:10000≤n) (h2:n<20000):Lib.decDigits n=[49,UInt8.ofNat (48+n / 1000 % 10),UInt8.ofNat (48+n / 100 % 10),UInt8.ofNat (48+n / 10 % 10),UInt8.ofNat (48+n % 10)]:=by
 rw [Lib.decDigits.eq_1,dif_neg (by omega),Lib.decDigits.eq_1 (n / 10),dif_neg (by omega),Lib.decDigits.eq_1 (n / 10 / 10),dif_neg (by omega),Lib.decDigits.eq_1 (n / 10 / 10 / 10),dif_neg (by omega),Lib.decDigits_one (show n / 10 / 10 / 10 / 10<10 by omega)]
 have e0:n / 10 / 10 / 10 / 10=1:=by omega
 have e1:n / 10 / 10 / 10 % 10=n / 1000 % 10:=by omega
 have e2:n / 10 / 10 % 10=n / 100 % 10:=by omega
 rw [e0,e1,e2]
 rfl
theorem AzD {z:Nat} (h:z≤840):(Lib.decDigits (10000+z / 60*100+z % 60)).drop 1=AmS z:=by
 rw [Bxr (by omega) (by omega)]
 have e1:(10000+z / 60*100+z % 60) / 1000 % 10=z / 60 / 10:=by omega
 have e2:(10000+z / 60*100+z % 60) / 100 % 10=z / 60 % 10:=by omega
 have e3:(10000+z / 60*100+z % 60) / 10 % 10=z % 60 / 10:=by omega
 have e4:(10000+z / 60*100+z % 60) % 10=z % 60 % 10:=by omega
 rw [e1,e2,e3,e4]
 rfl
theorem Bom {a b c d:Nat} (ha:a<10) (hb:b<10) (hc:c<10) (hd:d<10):([UInt8.ofNat (48+a),UInt8.ofNat (48+b),UInt8.ofNat (48+c),UInt8.ofNat (48+d)]:List UInt8).all LK=true∧AeF 0 [UInt8.ofNat (48+a),UInt8.ofNat (48+b),UInt8.ofNat (48+c),UInt8.ofNat (48+d)]=a*1000+b*100+c*10+d:=by
 obtain ⟨a1,a2⟩:=Akc ha
 obtain ⟨b1,b2⟩:=Akc hb
 obtain ⟨c1,c2⟩:=Akc hc
 obtain ⟨d1,d2⟩:=Akc hd
 generalize UInt8.ofNat (48+a)=x at *
 generalize UInt8.ofNat (48+b)=y at *
 generalize UInt8.ofNat (48+c)=u at *
 generalize UInt8.ofNat (48+d)=v at *
 constructor
 ·simp [a1,b1,c1,d1]
 ·have e:AeF 0 [x,y,u,v]=(((0*10+(x.toNat - 48))*10+(y.toNat - 48))*10+(u.toNat - 48))*10+(v.toNat - 48):=rfl
  rw [e,a2,b2,c2,d2]
  omega
theorem Ax4 {z:Nat} (h:z≤840):pV (AmS z)=some (z / 60*100+z % 60):=by
 obtain ⟨h1,h2⟩:=Bom (a:=z / 60 / 10) (b:=z / 60 % 10) (c:=z % 60 / 10) (d:=z % 60 % 10) (by omega) (by omega) (by omega) (by omega)
 have e:z / 60 / 10*1000+z / 60 % 10*100+z % 60 / 10*10+z % 60 % 10=z / 60*100+z % 60:=by omega
 rw [e] at h2
 unfold AmS
 have hl:[UInt8.ofNat (48+z / 60 / 10),UInt8.ofNat (48+z / 60 % 10),UInt8.ofNat (48+z % 60 / 10),UInt8.ofNat (48+z % 60 % 10)]≠[]:=List.cons_ne_nil _ _
 generalize [UInt8.ofNat (48+z / 60 / 10),UInt8.ofNat (48+z / 60 % 10),UInt8.ofNat (48+z % 60 / 10),UInt8.ofNat (48+z % 60 % 10)]=l at *
 unfold pV
 rw [if_pos ⟨hl,h1,by rw [h2]; omega⟩,h2]
theorem Au4 {z:Nat}:(z / 60*100+z % 60) / 100*60+(z / 60*100+z % 60) % 100=z:=by omega
theorem AcX (z:Nat):(AmS z).length=4:=rfl
theorem BqX {c:UInt8}:∀ {l:List UInt8},l.dropWhile (· == c)=l↔l[0]?≠some c
 | []=>by simp
 | b::l=>by
  by_cases e:b=c
  ·subst e
   simp
   intro h
   have:=congrArg List.length h
   have h2:=(List.dropWhile_sublist (· == b) (l:=l)).length_le
   simp at this
   omega
  ·simp [e]
theorem Blf {c:UInt8} {l:List UInt8} (h:(l.dropWhile (· == c)).length=l.length):l.dropWhile (· == c)=l :=
 (List.dropWhile_sublist _).eq_of_length h
theorem Bkd {c:UInt8} {l:List UInt8}:Lib.trimB l c=l↔l[0]?≠some c∧l[l.length - 1]?≠some c:=by
 have hr:l.reverse.dropWhile (· == c)=l.reverse↔l[l.length - 1]?≠some c:=by
  rw [BqX]
  cases l with
  | nil=>simp
  | cons b l=>rw [List.getElem?_reverse (by simp)]; simp
 unfold Lib.trimB Lib.trimLeftB Lib.trimRightB
 constructor
 ·intro h
  have h1:=(List.dropWhile_sublist (· == c) (l:=(l.reverse.dropWhile (· == c)).reverse)).length_le
  have h2:=(List.dropWhile_sublist (· == c) (l:=l.reverse)).length_le
  have h3:=congrArg List.length h
  simp at h1 h2 h3
  have h4:=hr.1 (Blf (by simp; omega))
  rw [(hr.2 h4),List.reverse_reverse] at h
  exact ⟨BqX.1 h,h4⟩
 ·rintro ⟨h1,h2⟩
  rw [hr.2 h2,List.reverse_reverse,BqX.2 h1]
end
section
open Go.RowKit
variable [Cc]
def WW (s:List UInt8):Bool:=decide (s≠[]∧s≠[46]∧s≠[46,46]∧s≠[46,103,105,116]∧s.length≤50∧¬ ∃ x∈s,x∈[(47:UInt8),0])
theorem BpX (s:List UInt8) (hs:s.length≤9223372036854775807):CE Tryz.prog 81 [ts s] (fun x=>x=tb (WW s)):=by
 refine BD.toPureV (AuB (by simp) ?_)
 unfold WW
 by_cases h1:s=[]
 ·subst h1; simp -dsimp (disch:=first | assumption | omega) only [↓AB,Aj,AA,Az,eq_self,Nat.reduceEqDiff,↓reduceIte,reduceCtorEq,↓IM]; simp
 by_cases h2:s=[46]
 ·subst h2; simp -dsimp (disch:=first | assumption | omega) only [↓AB,Aj,AA,Az,eq_self,Nat.reduceEqDiff,↓reduceIte,reduceCtorEq,Nat.reduceLeDiff,↓IM]; simp
 by_cases h3:s=[46,46]
 ·subst h3; simp -dsimp (disch:=first | assumption | omega) only [↓AB,Aj,AA,Az,eq_self,Nat.reduceEqDiff,↓reduceIte,Nat.reduceAdd,reduceCtorEq,Nat.reduceLeDiff,↓IM]; simp
 by_cases h4:s=[46,103,105,116]
 ·subst h4; simp -dsimp (disch:=first | assumption | omega) only [↓AB,Aj,AA,Az,eq_self,Nat.reduceEqDiff,↓reduceIte,Nat.reduceAdd,reduceCtorEq,Nat.reduceLeDiff,↓IM]; simp
 by_cases h5:s.length≤50
 ·simp -dsimp (disch:=first | assumption | omega) only [↓AB,Aj,AA,Az,eq_self,Nat.reduceEqDiff,↓reduceIte,reduceCtorEq,↓IM,h1,h2,h3,h4,A8]
  refine (Atn s [47,0] (by omega) (by simp) (by simp) (by simp)).calls rfl ?_
  rintro _ rfl
  simp -dsimp (disch:=first | assumption | omega) only [↓AB,Aj,AA,Az,eq_self,Nat.reduceEqDiff,↓reduceIte,↓IM]
  by_cases hb:∃ x∈s,x∈[(47:UInt8),0]
  ·rw [decide_eq_true hb,decide_eq_false (fun h=>h.2.2.2.2.2 hb)]; rfl
  ·rw [decide_eq_false hb,decide_eq_true ⟨h1,h2,h3,h4,h5,hb⟩]; rfl
 ·simp -dsimp (disch:=first | assumption | omega) only [↓AB,Aj,AA,Az,eq_self,Nat.reduceEqDiff,↓reduceIte,reduceCtorEq,↓IM,h1,h2,h3,h4,A8]
  simp [h5]
theorem ADS (s:List UInt8) (hs:s.length≤9223372036854775807):CE Tryz.prog 50 [ts s] (fun x=>x=tb (WW s)):=by
 refine BD.toPureV (Awp (by simp) ?_)
 unfold WW
 by_cases h1:s=[]
 ·subst h1; simp -dsimp (disch:=first | assumption | omega) only [↓AB,Aj,AA,Az,eq_self,Nat.reduceLT,Nat.reduceEqDiff,↓reduceIte,reduceCtorEq,↓Gp,A8]; simp
 by_cases h5:s.length≤50
 ·by_cases h2:s=[46]
  ·subst h2; simp -dsimp (disch:=first | assumption | omega) only [↓AB,Aj,AA,Az,eq_self,Nat.reduceLT,Nat.reduceEqDiff,↓reduceIte,reduceCtorEq,Nat.reduceLeDiff,↓Gp,A8]; simp
  by_cases h3:s=[46,46]
  ·subst h3; simp -dsimp (disch:=first | assumption | omega) only [↓AB,Aj,AA,Az,eq_self,Nat.reduceLT,Nat.reduceEqDiff,↓reduceIte,Nat.reduceAdd,reduceCtorEq,Nat.reduceLeDiff,↓Gp,A8]; simp
  by_cases h4:s=[46,103,105,116]
  ·subst h4; simp -dsimp (disch:=first | assumption | omega) only [↓AB,Aj,AA,Az,eq_self,Nat.reduceLT,Nat.reduceEqDiff,↓reduceIte,Nat.reduceAdd,reduceCtorEq,Nat.reduceLeDiff,↓Gp,A8]; simp
  have hpos:0<s.length:=List.length_pos_iff.2 h1
  simp -dsimp (disch:=first | assumption | omega) only [↓AB,Aj,AA,Az,eq_self,Nat.reduceEqDiff,↓reduceIte,reduceCtorEq,↓Gp,h2,h3,h4,A8]
  refine FU (fun q e H=>∃ i:Nat,q=s.length - i∧i≤s.length∧(∀ j x,j<i→s[j]?=some x→x∉[(47:UInt8),0])∧e=[(0,ts s),(3,i64 (i:Int))]∧H=[]) s.length ?_ ?_
  ·exact ⟨0,rfl,by omega,fun j x h=>by omega,rfl,rfl⟩
  ·rintro q e H ⟨i,rfl,hi,hno,rfl,rfl⟩
   by_cases h:i<s.length
   ·obtain ⟨c,hc⟩:∃ c,s[i]?=some c:=⟨_,List.getElem?_eq_getElem h⟩
    by_cases c1:c=0
    ·subst c1
     simp -dsimp (disch:=first | assumption | omega) only [↓AB,Aj,AA,Az,eq_self,Nat.reduceEqDiff,UInt8.reduceToNat,↓reduceIte,reduceCtorEq,↓Gp,A8,hc]
     rw [decide_eq_false (fun h=>h.2.2.2.2.2 ⟨0,List.mem_of_getElem? hc,by simp⟩)]
    by_cases c2:c=47
    ·subst c2
     simp -dsimp (disch:=first | assumption | omega) only [↓AB,Aj,AA,Az,eq_self,Nat.reduceEqDiff,UInt8.reduceToNat,↓reduceIte,reduceCtorEq,↓Gp,A8,hc]
     rw [decide_eq_false (fun h=>h.2.2.2.2.2 ⟨47,List.mem_of_getElem? hc,by simp⟩)]
    have d1:¬ c.toNat=0:=fun e=>c1 (UInt8.toNat_inj.1 e)
    have d2:¬ c.toNat=47:=fun e=>c2 (UInt8.toNat_inj.1 e)
    simp -dsimp (disch:=first | assumption | omega) only [↓AB,Aj,AA,Az,eq_self,Nat.reduceEqDiff,↓reduceIte,reduceCtorEq,↓Gp,A8,hc,d1,d2]
    refine BQ (s.length - (i+1)) (by omega) (by simp) ⟨i+1,rfl,by omega,fun j x hj hx => ?_,rfl,rfl⟩
    by_cases e:j=i
    ·subst e; rw [hc] at hx; cases hx; simp [c1,c2]
    ·exact hno j x (by omega) hx
   ·have hb:¬ ∃ x∈s,x∈[(47:UInt8),0]:=fun ⟨x,hx,hm⟩=>by
     obtain ⟨j,hj,rfl⟩:=List.mem_iff_getElem.1 hx
     exact hno j _ (by omega) (List.getElem?_eq_getElem hj) hm
    simp -dsimp (disch:=first | assumption | omega) only [↓AB,Aj,AA,Az,eq_self,Nat.reduceEqDiff,↓reduceIte,reduceCtorEq,↓Gp,A8]
    rw [decide_eq_true ⟨h1,h2,h3,h4,h5,hb⟩]
 ·have hpos:0<s.length:=List.length_pos_iff.2 h1
  simp -dsimp (disch:=first | assumption | omega) only [↓AB,Aj,AA,Az,eq_self,Nat.reduceEqDiff,↓reduceIte,reduceCtorEq,↓Gp,A8]
  simp [h5]
end
section
open Go.RowKit
variable [Cc]
def Ajq (b:UInt8):Bool:=48≤b.toNat && b.toNat≤55
def AmY:Nat→List UInt8→Nat
 | n,[]=>n
 | n,b::l=>AmY (n*8+(b.toNat - 48)) l
theorem Arw:∀ (l m:List UInt8) (n:Nat),AmY n (l++m)=AmY (AmY n l) m
 | [],_,_=>rfl
 | b::l,m,n=>Arw l m _
theorem ACm:∀ (l:List UInt8) (n:Nat),n≤AmY n l
 | [],n=>Nat.le_refl _
 | b::l,n=>Nat.le_trans (by omega) (ACm l _)
def pO (s:List UInt8):Option Nat:=if s≠[]∧s.all Ajq∧AmY 0 s<1048576 then some (AmY 0 s) else none
def Azy (s:List UInt8) (r:TV):Prop:=(∀ n,pO s=some n→r = .tup [.val (.int .u64 (n:Int)),.val .nilIface])∧(pO s=none→∃ m c:Nat,m≤1048575∧(c=1∨c=2)∧r = .tup [.val (.int .u64 (m:Int)),.ifc 228 (i64 (c:Int))])
theorem Azy.no {s:List UInt8} (h:pO s=none) {m c:Nat} (hc:c=1∨c=2) (hm:m≤1048575:=by omega):Azy s (.tup [.val (.int .u64 (m:Int)),.ifc 228 (i64 (c:Int))]) :=
 ⟨fun n hn=>(by rw [h] at hn; cases hn),fun _=>⟨m,c,hm,hc,rfl⟩⟩
theorem Azy.yes {s:List UInt8} {n:Nat} (h:pO s=some n):Azy s (.tup [.val (.int .u64 (n:Int)),.val .nilIface]) :=
 ⟨fun m hm=>(by rw [h] at hm; cases hm; rfl),fun hn=>(by rw [h] at hn; cases hn)⟩
theorem BpC {s:List UInt8} {i:Nat} {b:UInt8} (h:s[i]?=some b) (hb:Ajq b=false):pO s=none:=by
 unfold pO
 rw [if_neg]
 rintro ⟨_,h2,_⟩
 have:=List.all_eq_true.1 h2 b (List.mem_of_getElem? h)
 rw [hb] at this; cases this
theorem BsV {s:List UInt8} {i:Nat} (h:1048576≤AmY 0 (s.take i)):pO s=none:=by
 unfold pO
 rw [if_neg]
 rintro ⟨_,_,h3⟩
 have:AmY 0 s=AmY (AmY 0 (s.take i)) (s.drop i):=by rw [←Arw,List.take_append_drop]
 have h4:=ACm (s.drop i) (AmY 0 (s.take i))
 omega
theorem Bvk (s:List UInt8) (hs:s.length≤1000000):CE Tryz.prog 123 [ts s,i64 ((8:Nat):Int),i64 ((20:Nat):Int)] (Azy s):=by
 refine BD.toPureV (G6 (by simp) ?_)
 by_cases h0:s=[]
 ·subst h0
  have hn:pO []=none:=by unfold pO; simp
  simp -dsimp (disch:=first | assumption | omega | (simp only [Aa];try omega)) only [↓AB,Aj,AA,Az,eq_self,Nat.reduceEqDiff,↓reduceIte,Nat.reduceAdd,reduceCtorEq,↓CW,↓CO,↓AV]
  exact Azy.no hn (.inr rfl)
 have hw1:IntKind.u64.wrap ((20:Nat):Int)=((20:Nat):Int):=Yx (by omega)
 simp -dsimp (disch:=first | assumption | omega | (simp only [Aa];try omega)) only [↓AB,Aj,AA,Az,eq_self,Nat.reduceLT,Nat.reduceEqDiff,↓reduceIte,Nat.reduceAdd,reduceCtorEq,Nat.reduceLeDiff,↓CW,↓CO,h0,↓E8,↓FD,↓E5,↓Fz,↓FO,↓FC]
 have hw8a:IntKind.u64.wrap ((8:Nat):Int)=((8:Nat):Int):=by decide
 have hq:∀ t,Jh t .quo (.int .u64 ((18446744073709551615:Nat):Int)) (.int .u64 ((8:Nat):Int))=some (.int .u64 ((2305843009213693951:Nat):Int)):=fun t=>rfl
 have hq2:∀ t,Jh t .add (.int .u64 ((2305843009213693951:Nat):Int)) (.int .u64 ((1:Nat):Int))=some (.int .u64 ((2305843009213693952:Nat):Int)):=fun t=>rfl
 simp -dsimp (disch:=first | assumption | omega | (simp only [Aa];try omega)) only [↓AB,Aj,AA,Az,eq_self,Nat.reduceEqDiff,Nat.reduceSub,Nat.reduceMul,Nat.reducePow,↓reduceIte,reduceCtorEq,↓Fe,↓Fa,↓OU,hw8a,hq,hq2,↓FH,hw1,AxO,AyQ,↓FK,↓FM,↓FB,A8,↓FP]
 refine FU (fun q e H=>∃ (i n:Nat),q=s.length - i∧i≤s.length∧(s.take i).all Ajq=true∧n=AmY 0 (s.take i)∧n<1048576∧H=[.obj 0 (.arr s.length 1 (s.map by8))] ∧
  e=[(1,i64 ((8:Nat):Int)),(8,tb false),(9,ts s),(10,.val (.int .u64 ((2305843009213693952:Nat):Int))),(11,.val (.int .u64 ((1048575:Nat):Int))),(12,tb false),(13,.val (.int .u64 (n:Int))),(99,.os 1 0 0 [] 0 s.length s.length),(100,i64 (s.length:Int)),(101,i64 (i:Int))]) s.length ?_ ?_
 ·refine ⟨0,0,?_,Nat.zero_le _,?_,?_,?_,?_,?_⟩
  ·simp
  ·rw [List.take_zero]; rfl
  ·rw [List.take_zero]; rfl
  ·omega
  ·simp
  ·simp [forget,get]
 ·rintro q e H ⟨i,n,rfl,hi,hall,hn,hnl,rfl,rfl⟩
  by_cases c:i<s.length
  ·have hg:s[i]?=some s[i]:=List.getElem?_eq_getElem c
   have hsucc:=List.take_succ_eq_append_getElem c
   generalize s[i]=b at *
   have hb:=b.toNat_lt
   have hnum:AmY 0 (s.take (i+1))=n*8+(b.toNat - 48):=by rw [hsucc,Arw,←hn]; rfl
   have hw8:IntKind.u8.wrap ((8:Nat):Int)=((8:Nat):Int):=by decide
   have hw8':IntKind.u64.wrap ((8:Nat):Int)=((8:Nat):Int):=by decide
   by_cases hd:48≤b.toNat∧b.toNat≤57
   ·by_cases hoc:b.toNat≤55
    case neg =>
     have hno:=BpC hg (show Ajq b=false by unfold Ajq; simp; omega)
     have h95:¬ b.toNat=95:=by omega
     simp -dsimp (disch:=first | assumption | omega | (simp only [Aa];try omega)) only [↓AB,Aj,AA,Az,eq_self,Nat.reduceEqDiff,↓reduceIte,↓A7,↓AZ,↓Bh,hg,↓Bi,↓BA,h95,↓Bq,↓Bv,↓AY,Ux,↓BB,hw8,↓AV]
     exact Azy.no hno (.inr rfl)
    have hisd:Ajq b=true:=by unfold Ajq; simp [hd,hoc]
    have h95:¬ b.toNat=95:=by omega
    have hwd:IntKind.u64.wrap ((b.toNat - 48:Nat):Int)=((b.toNat - 48:Nat):Int):=Yx (by omega)
    by_cases hc:2305843009213693952≤n
    ·exact absurd hc (by omega)
    ·have hnl2:=hnl
     clear hnl
     have hn8:n*8<18446744073709551616:=by omega
     have hadd:∀ t,Jh t .add (.int .u64 ((n*8:Nat):Int)) (.int .u64 ((b.toNat - 48:Nat):Int))=some (.int .u64 (((n*8+(b.toNat - 48)) % 18446744073709551616:Nat):Int)):=fun t=>by
      rw [show Jh t .add (.int .u64 ((n*8:Nat):Int)) (.int .u64 ((b.toNat - 48:Nat):Int))=some (.int .u64 (IntKind.u64.wrap (((n*8:Nat):Int)+((b.toNat - 48:Nat):Int)))) from rfl,IntKind.wrap_u64]
      congr 2
     simp -dsimp (disch:=first | assumption | omega | (simp only [Aa];try omega)) only [↓AB,Aj,AA,Az,eq_self,Nat.reduceEqDiff,↓reduceIte,↓A7,↓AZ,↓Bh,hg,↓Bi,↓BA,h95,↓Bq,↓Bv,↓AY,Ux,↓BB,hw8,↓Ec,↓FQ,hw8',AuE,↓EZ,hwd,hadd,↓Fv]
     by_cases hbig:1048576≤n*8+(b.toNat - 48)
     ·have hno:=BsV (s:=s) (i:=i+1) (by rw [hnum]; exact hbig)
      by_cases hwr:(n*8+(b.toNat - 48)) % 18446744073709551616<n*8
      ·simp -dsimp (disch:=first | assumption | omega | (simp only [Aa];try omega)) only [↓AB,Aj,AA,Az,eq_self,Nat.reduceEqDiff,↓reduceIte,↓AV]
       exact Azy.no hno (.inl rfl)
      ·have hgt:(n*8+(b.toNat - 48)) % 18446744073709551616 > 1048575:=by omega
       simp -dsimp (disch:=first | assumption | omega | (simp only [Aa];try omega)) only [↓AB,Aj,AA,Az,eq_self,Nat.reduceEqDiff,↓reduceIte,↓AV]
       exact Azy.no hno (.inl rfl)
     ·have hmod:(n*8+(b.toNat - 48)) % 18446744073709551616=n*8+(b.toNat - 48):=Nat.mod_eq_of_lt (by omega)
      rw [hmod]
      simp -dsimp (disch:=first | assumption | omega | (simp only [Aa];try omega)) only [↓AB,Aj,AA,Az,eq_self,Nat.reduceEqDiff,↓reduceIte]
      exact BQ (s.length - (i+1)) (by omega) (by simp) ⟨i+1,n*8+(b.toNat - 48),rfl,by omega,by rw [hsucc,List.all_append,hall]; simp [hisd],hnum.symm,by omega,rfl,by simp [forget,get]⟩
   ·have hno:=BpC hg (show Ajq b=false by unfold Ajq; simp; omega)
    by_cases h95:b.toNat=95
    ·have hor:(b.toNat ||| 32)=127:=by rw [h95]; rfl
     simp -dsimp (disch:=first | assumption | omega | (simp only [Aa];try omega)) only [↓AB,Aj,AA,Az,eq_self,Nat.reduceEqDiff,↓reduceIte,Nat.reduceLeDiff,↓A7,↓AZ,↓Bh,hg,↓Bi,↓BA,h95,↓Bq,↓Bv,↓AY,↓BF]
     refine (QZ b).calls rfl fun r hr => ?_
     subst hr
     rw [hor]
     simp -dsimp (disch:=first | assumption | omega | (simp only [Aa];try omega)) only [↓AB,Aj,AA,Az,eq_self,Nat.reduceEqDiff,↓reduceIte,Nat.reduceLeDiff]
     refine (QZ b).calls rfl fun r hr => ?_
     subst hr
     rw [hor]
     simp -dsimp (disch:=first | assumption | omega | (simp only [Aa];try omega)) only [↓AB,Aj,AA,Az,eq_self,Nat.reduceEqDiff,↓reduceIte,Nat.reduceLeDiff,↓AV]
     exact Azy.no hno (.inr rfl)
    ·have hl:=Bxf b.toNat hb hd
     simp -dsimp (disch:=first | assumption | omega | (simp only [Aa];try omega)) only [↓AB,Aj,AA,Az,eq_self,Nat.reduceEqDiff,↓reduceIte,↓A7,↓AZ,↓Bh,hg,↓Bi,↓BA,h95,↓Bq,↓Bv]
     by_cases c48:48≤b.toNat
     ·have c57:¬ b.toNat≤57:=by omega
      simp -dsimp (disch:=first | assumption | omega | (simp only [Aa];try omega)) only [↓AB,Aj,AA,Az,eq_self,Nat.reduceEqDiff,↓reduceIte,↓AY,↓BF]
      refine (QZ b).calls rfl fun r hr => ?_
      subst hr
      have hlw:=QZ b
      generalize b.toNat ||| 32=x at *
      by_cases c97:97≤x
      ·simp -dsimp (disch:=first | assumption | omega | (simp only [Aa];try omega)) only [↓AB,Aj,AA,Az,eq_self,Nat.reduceEqDiff,↓reduceIte]
       refine hlw.calls rfl fun r hr => ?_
       subst hr
       by_cases c122:x≤122
       ·have h10:=hl c97 c122
        have hmod:(x - 97+10) % 256=x - 97+10:=Nat.mod_eq_of_lt (by omega)
        simp -dsimp (disch:=first | assumption | omega | (simp only [Aa];try omega)) only [↓AB,Aj,AA,Az,eq_self,Nat.reduceEqDiff,↓reduceIte]
        refine hlw.calls rfl fun r hr => ?_
        subst hr
        simp -dsimp (disch:=first | assumption | omega | (simp only [Aa];try omega)) only [↓AB,Aj,AA,Az,eq_self,Nat.reduceEqDiff,↓reduceIte,Nat.reduceLeDiff,Ux,Anb,hmod,↓BB,hw8,↓AV]
        exact Azy.no hno (.inr rfl)
       ·simp -dsimp (disch:=first | assumption | omega | (simp only [Aa];try omega)) only [↓AB,Aj,AA,Az,eq_self,Nat.reduceEqDiff,↓reduceIte,↓AV]
        exact Azy.no hno (.inr rfl)
      ·simp -dsimp (disch:=first | assumption | omega | (simp only [Aa];try omega)) only [↓AB,Aj,AA,Az,eq_self,Nat.reduceEqDiff,↓reduceIte,↓AV]
       exact Azy.no hno (.inr rfl)
     ·simp -dsimp (disch:=first | assumption | omega | (simp only [Aa];try omega)) only [↓AB,Aj,AA,Az,eq_self,Nat.reduceEqDiff,↓reduceIte,↓AY,↓BF]
      refine (QZ b).calls rfl fun r hr => ?_
      subst hr
      have hlw:=QZ b
      generalize b.toNat ||| 32=x at *
      by_cases c97:97≤x
      ·simp -dsimp (disch:=first | assumption | omega | (simp only [Aa];try omega)) only [↓AB,Aj,AA,Az,eq_self,Nat.reduceEqDiff,↓reduceIte]
       refine hlw.calls rfl fun r hr => ?_
       subst hr
       by_cases c122:x≤122
       ·have h10:=hl c97 c122
        have hmod:(x - 97+10) % 256=x - 97+10:=Nat.mod_eq_of_lt (by omega)
        simp -dsimp (disch:=first | assumption | omega | (simp only [Aa];try omega)) only [↓AB,Aj,AA,Az,eq_self,Nat.reduceEqDiff,↓reduceIte]
        refine hlw.calls rfl fun r hr => ?_
        subst hr
        simp -dsimp (disch:=first | assumption | omega | (simp only [Aa];try omega)) only [↓AB,Aj,AA,Az,eq_self,Nat.reduceEqDiff,↓reduceIte,Nat.reduceLeDiff,Ux,Anb,hmod,↓BB,hw8,↓AV]
        exact Azy.no hno (.inr rfl)
       ·simp -dsimp (disch:=first | assumption | omega | (simp only [Aa];try omega)) only [↓AB,Aj,AA,Az,eq_self,Nat.reduceEqDiff,↓reduceIte,↓AV]
        exact Azy.no hno (.inr rfl)
      ·simp -dsimp (disch:=first | assumption | omega | (simp only [Aa];try omega)) only [↓AB,Aj,AA,Az,eq_self,Nat.reduceEqDiff,↓reduceIte,↓AV]
       exact Azy.no hno (.inr rfl)
  ·have hi2:i=s.length:=by omega
   subst hi2
   rw [List.take_length] at hn hall
   have hyes:pO s=some n:=by unfold pO; rw [if_pos ⟨h0,hall,by rw [←hn]; exact hnl⟩,hn]
   simp -dsimp (disch:=first | assumption | omega | (simp only [Aa];try omega)) only [↓AB,Aj,AA,Az,eq_self,Nat.reduceEqDiff,↓reduceIte,↓A7,↓AZ,↓FI,↓AV]
   exact Azy.yes hyes
variable [Ba] [Bd]
theorem Ao0 (s:List UInt8) (hs:s.length≤1000000):CE Tryz.prog 89 [ts s,i64 ((8:Nat):Int),i64 ((20:Nat):Int)] (fun r=>(∀ n,pO s=some n→r = .tup [.val (.int .u64 (n:Int)),.val .nilIface])∧(pO s=none→∃ m:Nat,m≤1048575∧r = .tup [.val (.int .u64 (m:Int)),.ifc 229 .any])):=by
 refine BD.toPureV (NC (by simp) ?_)
 simp -dsimp (disch:=first | assumption | omega | (simp only [Aa];try omega)) only [↓AB,Aj,AA,Az,eq_self,Nat.reduceEqDiff,↓reduceIte,Nat.reduceAdd,reduceCtorEq,↓CQ]
 refine (Bvk s hs).calls rfl fun r hr => ?_
 cases hp:pO s with
 | some n =>
  rw [hr.1 n hp]
  simp -dsimp (disch:=first | assumption | omega | (simp only [Aa];try omega)) only [↓AB,Aj,AA,Az,eq_self,Nat.reduceEqDiff,↓reduceIte,reduceCtorEq,↓CQ]
  exact ⟨fun m hm=>(by cases hm; rfl),fun h=>(by cases h)⟩
 | none =>
  obtain ⟨m,c,hm,hc,rfl⟩:=hr.2 hp
  simp -dsimp (disch:=first | assumption | omega | (simp only [Aa];try omega)) only [↓AB,Aj,AA,Az,eq_self,Nat.reduceEqDiff,↓reduceIte,reduceCtorEq,↓CQ]
  refine (Bkp _ s _ _ hs c hc).calls rfl fun r hr => ?_
  subst hr
  simp -dsimp (disch:=first | assumption | omega | (simp only [Aa];try omega)) only [↓AB,Aj,AA,Az,eq_self,forall_const,Nat.reduceEqDiff,↓reduceIte,reduceCtorEq,↓CQ]
  exact ⟨fun n h=>h.elim,m,hm,rfl⟩
end
section
variable [Cc]
set_option maxRecDepth 100000
end
section
open Go.RowKit
variable [Cc]
def BnK:Nat→Nat→List UInt8
 | 0,_=>[]
 | f+1,u=>if u<8 then [UInt8.ofNat (48+u)] else BnK f (u / 8)++[UInt8.ofNat (48+u % 8)]
variable [Gx]
end
section
open Go.RowKit
variable [Cc]
structure BtZ (c c':Ctx) (n:Nat):Prop where
 beta:∀ id ver,c'.β (id+n) ver=c.β id ver
 has:∀ id ver,c.has id ver→c'.has (id+n) ver
 keepF:∀ b,c.F b→c'.F b
theorem BtZ.bare {c c':Ctx} {n:Nat} {w:World} (h:BtZ c c' n):TK c.bare w c'.bare w:=⟨fun b hb=>⟨h.keepF b hb,rfl⟩,fun _ _ k=>(Ctx.bare_has k).elim,fun _ _=>rfl⟩
end
section
open Go.RowKit
variable [Cc]
def ltB (a b:List UInt8):Prop:=a<b
theorem Bre (a b:List UInt8):Op.bytesLess a b=decide (a<b):=bytesLess_eq a b
theorem AsU (a:List UInt8):¬ ltB a a:=List.lt_irrefl a
theorem AlC {a b c:List UInt8} (h:ltB a b) (k:ltB b c):ltB a c:=List.lt_trans h k
theorem BjW {a b:List UInt8} (h1:¬ ltB a b) (h2:¬ ltB b a):a=b:=List.le_antisymm (List.not_lt.1 h2) (List.not_lt.1 h1)
instance (a b:List UInt8):Decidable (ltB a b):=inferInstanceAs (Decidable (a<b))
abbrev SD (l:List (List UInt8)):Prop:=l.Pairwise ltB
theorem SD.filter {l:List (List UInt8)} (h:SD l) (p:List UInt8→Bool):SD (l.filter p):=List.Pairwise.filter p h
def dd:List (List UInt8)→List (List UInt8)
 | []=>[]
 | [x]=>[x]
 | x::y::l=>if x=y then dd (y::l) else x::dd (y::l)
theorem ABd:∀ {a b:List UInt8},Lib.compareBytes a b<0↔ltB a b
 | [],[]=>by simp [Lib.compareBytes,ltB]
 | [],_::_=>by simp [Lib.compareBytes,ltB]
 | _::_,[]=>by simp [Lib.compareBytes,ltB]
 | a::xs,b::ys=>by
  have ih:=ABd (a:=xs) (b:=ys)
  unfold ltB at ih ⊢
  rw [Lib.compareBytes,List.cons_lt_cons_iff]
  by_cases h1:a<b
  ·simp [h1]
  ·by_cases h2:b<a
   ·have hne:a≠b:=fun e=>by subst e; exact h1 h2
    simp [h1,h2,hne]
   ·have he:a=b:=UInt8.le_antisymm (UInt8.not_lt.1 h2) (UInt8.not_lt.1 h1)
    rw [if_neg h1,if_neg h2,ih]
    simp [he]
end
section
open Go.RowKit
variable [Cc]
def Aai (m:Int):Bool:=m == 16384 || m == 33188 || m == 33261 || m == 40960
def AcS (m:Int):List UInt8:=if m=16384 then [52,48,48,48,48] else if m=33188 then [49,48,48,54,52,52] else if m=33261 then [49,48,48,55,53,53] else if m=40960 then [49,50,48,48,48,48] else []
theorem Nc {m:Int} (h:Aai m=true):m=16384∨m=33188∨m=33261∨m=40960:=by
 unfold Aai at h
 simp only [Bool.or_eq_true,beq_iff_eq] at h
 omega
theorem BlA {m:Int} (h:Aai m=true):BnK 6 m.toNat=AcS m:=by
 rcases Nc h with rfl | rfl | rfl | rfl<;>decide
theorem ACF {m:Int}:AcS m=[]↔Aai m=false:=by
 unfold AcS Aai
 by_cases h1:m=16384
 ·subst h1; decide
 by_cases h2:m=33188
 ·subst h2; decide
 by_cases h3:m=33261
 ·subst h3; decide
 by_cases h4:m=40960
 ·subst h4; decide
 simp [h1,h2,h3,h4]
def enB (e:En):List UInt8:=AcS e.mode++32::(e.name++0::e.id)
def AzA (e:En):Prop:=Aai e.mode=true∧WW e.name=true∧e.id.length=20
def Ac5 (l:List En):Prop:=l.length≤2000∧(∀ e∈l,AzA e)∧(l.map (·.name)).Nodup
theorem Apy {s:List UInt8} (h:WW s=true):s≠[]∧s.length≤50∧47∉s∧0∉s:=by
 unfold WW at h
 simp only [decide_eq_true_eq] at h
 refine ⟨h.1,h.2.2.2.2.1,fun hm=>h.2.2.2.2.2 ⟨47,hm,by simp⟩,fun hm=>h.2.2.2.2.2 ⟨0,hm,by simp⟩⟩
theorem Bmx {x y:En} (hx:WW x.name=true) (hy:WW y.name=true) (h:Yb x=Yb y):x.name=y.name:=by
 have a:=(Apy hx).2.2.1
 have b:=(Apy hy).2.2.1
 unfold Yb at h
 split at h<;>split at h
 ·exact List.append_cancel_right h
 ·exact absurd (h▸(by simp:(47:UInt8)∈x.name++[47])) b
 ·exact absurd (h▸(by simp:(47:UInt8)∈y.name++[47])) a
 ·exact h
abbrev SE (l:List En):Prop:=l.Pairwise fun x y=>ltB (Yb x) (Yb y)
theorem SE.ext:∀ {a b:List En},SE a→SE b→a.Perm b→a=b
 | [],b,_,_,h=>h.nil_eq
 | x::a,[],_,_,h=>absurd h.length_eq (by simp)
 | x::a,y::b,ha,hb,h=>by
  rw [SE,List.pairwise_cons] at ha hb
  have hxy:x=y:=by
   rcases List.mem_cons.1 (h.mem_iff.1 (List.mem_cons_self ..)) with e | e
   ·exact e
   ·rcases List.mem_cons.1 (h.mem_iff.2 (List.mem_cons_self ..)) with e2 | e2
    ·exact e2.symm
    ·exact absurd (AlC (ha.1 y e2) (hb.1 x e)) (AsU _)
  subst hxy
  rw [SE.ext ha.2 hb.2 (List.Perm.cons_inv h)]
theorem AED {l:List En} (h:Ac5 l):(l.map Yb).Nodup:=by
 obtain ⟨_,h2,h3⟩:=h
 rw [List.nodup_iff_pairwise_ne,List.pairwise_map] at h3 ⊢
 exact List.Pairwise.imp_of_mem (fun ha hb hne e=>hne (Bmx (h2 _ ha).2.1 (h2 _ hb).2.1 e)) h3
theorem SE.insert {out:List En} (h:SE out) {x:En} {at':Nat} (hle:at'≤out.length) (h1:∀ (k:Nat) y,k<at'→out[k]?=some y→ltB (Yb y) (Yb x)) (h2:∀ y,out[at']?=some y→ltB (Yb x) (Yb y)):SE (out.take at'++x::out.drop at'):=by
 have hT:∀ y∈out.take at',ltB (Yb y) (Yb x):=by
  intro y hy
  obtain ⟨k,hk⟩:=List.getElem?_of_mem hy
  rw [List.getElem?_take] at hk
  split at hk
  ·exact h1 k y (by assumption) hk
  ·cases hk
 have hD:∀ y∈out.drop at',ltB (Yb x) (Yb y):=by
  intro y hy
  obtain ⟨k,hk⟩:=List.getElem?_of_mem hy
  rw [List.getElem?_drop] at hk
  have hlt:at'<out.length:=by have:=(List.getElem?_eq_some_iff.1 hk).1; omega
  have h5:=h2 _ (List.getElem?_eq_getElem hlt)
  rcases Nat.eq_zero_or_pos k with rfl | hp
  ·rw [Nat.add_zero,List.getElem?_eq_getElem hlt] at hk; cases hk; exact h5
  ·have hlt2:=(List.getElem?_eq_some_iff.1 hk).1
   have h6:=(List.pairwise_iff_getElem.1 h) at' (at'+k) hlt hlt2 (by omega)
   rw [List.getElem?_eq_getElem hlt2] at hk; cases hk
   exact AlC h5 h6
 rw [SE,List.pairwise_append,List.pairwise_cons]
 refine ⟨h.sublist (List.take_sublist at' out),⟨hD,h.sublist (List.drop_sublist at' out)⟩,fun a ha b hb => ?_⟩
 rcases List.mem_cons.1 hb with rfl | hb
 ·exact hT a ha
 ·exact AlC (hT a ha) (hD b hb)
theorem ADd {out p:List En} {x:En} {k:Nat} (h:out.Perm p):(out.take k++x::out.drop k).Perm (p++[x]):=by
 have h1:(out.take k++x::out.drop k).Perm (x::(out.take k++out.drop k)):=List.perm_middle
 rw [List.take_append_drop] at h1
 exact h1.trans ((h.cons x).trans (List.perm_append_singleton x p).symm)
def U2 (l:List En) (b:List UInt8):Prop:=Ac5 l∧SE l∧l.flatMap enB=b
theorem Bod:∀ (f:Nat) (s:List UInt8),s.all Ajq=true→s≠[]→s[0]?≠some 48→s.length≤f→BnK f (AmY 0 s)=s:=by
 intro f
 induction f with
 | zero =>
  intro s _ h1 _ h2
  exact absurd (List.eq_nil_of_length_eq_zero (by omega)) h1
 | succ f ih =>
  intro s hall hne h0 hl
  have hs:s=s.dropLast++[s.getLast hne]:=(List.dropLast_concat_getLast hne).symm
  generalize s.getLast hne=d at hs
  generalize s.dropLast=p at hs
  subst hs
  rw [List.all_append] at hall
  simp only [List.all_cons,List.all_nil,Bool.and_true,Bool.and_eq_true] at hall
  obtain ⟨hp,hd⟩:=hall
  unfold Ajq at hd
  simp only [Bool.and_eq_true,decide_eq_true_eq] at hd
  have hnum:AmY 0 (p++[d])=AmY 0 p*8+(d.toNat - 48):=by rw [Arw]; rfl
  have hdd:UInt8.ofNat (48+(d.toNat - 48))=d:=by rw [show 48+(d.toNat - 48)=d.toNat by omega]; exact UInt8.ofNat_toNat
  rw [hnum]
  by_cases hpe:p=[]
  ·subst hpe
   have e0:AmY 0 []=0:=rfl
   rw [e0,BnK,if_pos (by omega)]
   rw [show 48+(0*8+(d.toNat - 48))=48+(d.toNat - 48) by omega,hdd]; rfl
  ·have hp0:p[0]?≠some 48:=by
    intro e
    rw [List.getElem?_append_left (by have:=List.length_pos_iff.2 hpe; omega)] at h0
    exact h0 e
   have hpos:1≤AmY 0 p:=by
    obtain ⟨c,q,rfl⟩:∃ c q,p=c::q:=by
     cases p with
     | nil=>exact absurd rfl hpe
     | cons c q=>exact ⟨c,q,rfl⟩
    have hc:Ajq c=true:=by simp at hp; exact hp.1
    unfold Ajq at hc
    simp only [Bool.and_eq_true,decide_eq_true_eq] at hc
    have hc48:c.toNat≠48:=fun e=>hp0 (by simp [show c=48 from UInt8.toNat_inj.1 e])
    have:=ACm q (0*8+(c.toNat - 48))
    show 1≤AmY (0*8+(c.toNat - 48)) q
    omega
   rw [BnK,if_neg (by omega),show (AmY 0 p*8+(d.toNat - 48)) / 8=AmY 0 p by omega,show (AmY 0 p*8+(d.toNat - 48)) % 8=d.toNat - 48 by omega,ih p hp hpe hp0 (by simp at hl; omega),hdd]
theorem BkO {s:List UInt8} {m:Int} (hp:pO s=some m.toNat) (hm:Aai m=true) (h0:s[0]?≠some 48):s=AcS m:=by
 unfold pO at hp
 split at hp
 ·rename_i h
  obtain ⟨h1,h2,h3⟩:=h
  have e:=Option.some.inj hp
  have k1:=Bod (s.length+6) s h2 h1 h0 (by omega)
  rw [e] at k1
  rw [←BlA hm,←k1]
  have big:∀ (f g u:Nat),u<8 ^ f→1≤f→BnK (f+g) u=BnK f u:=by
   intro f
   induction f with
   | zero=>intro g u _ h; omega
   | succ f ih =>
    intro g u hu _
    rw [show f+1+g=f+g+1 by omega,BnK,BnK]
    by_cases c:u<8
    ·rw [if_pos c,if_pos c]
    ·rw [if_neg c,if_neg c,ih g (u / 8) (by rw [Nat.pow_succ] at hu; omega) (by
      rcases Nat.eq_zero_or_pos f with h | h
      ·subst h; simp at hu; omega
      ·exact h)]
  rw [show s.length+6=6+s.length by omega]
  refine big 6 s.length m.toNat ?_ (by omega)
  rcases Nc hm with rfl | rfl | rfl | rfl<;>decide
 ·cases hp
theorem Brl {m:Int} (h:Aai m=true):pO (AcS m)=some m.toNat∧(AcS m)[0]?≠some 48∧32∉AcS m∧AcS m≠[]:=by
 rcases Nc h with rfl | rfl | rfl | rfl<;>decide
end
section
open Go.RowKit
variable [Cc]
def pEn (b:List UInt8):Option (En×List UInt8):=match QO 32 b with
 | none=>none
 | some i=>match QO 0 (b.drop (i+1)) with
  | none=>none
  | some j=>match pO (b.take i) with
   | none=>none
   | some m=>if (b.take i)[0]?=some 48∨((b.drop (i+1)).drop (j+1)).length<20 then none
    else some (⟨(m:Int),(b.drop (i+1)).take j,((b.drop (i+1)).drop (j+1)).take 20⟩,((b.drop (i+1)).drop (j+1)).drop 20)
theorem Bpg {e:En} {r:List UInt8} (h:AzA e):pEn (enB e++r)=some (e,r):=by
 obtain ⟨m,n,d⟩:=e
 obtain ⟨h1,h2,h3⟩:=h
 simp only at *
 obtain ⟨p1,p2,p3,p4⟩:=Brl h1
 have n0:=(Apy h2).2.2.2
 have e1:enB ⟨m,n,d⟩++r=AcS m++32::(n++0::(d++r)):=by simp [enB]
 have hm:((m.toNat:Nat):Int)=m:=by rcases Nc h1 with h | h | h | h<;>rw [h]<;>rfl
 unfold pEn
 rw [e1,Akd p3]
 simp only [List.take_left]
 have e2:(AcS m++32::(n++0::(d++r))).drop ((AcS m).length+1)=n++0::(d++r):=by
  rw [←List.drop_drop,List.drop_left]; rfl
 have e3:(n++0::(d++r)).drop (n.length+1)=d++r:=by
  rw [←List.drop_drop,List.drop_left]; rfl
 rw [e2,Akd n0]
 simp only [List.take_left]
 rw [p1,e3]
 simp only
 rw [if_neg (by simp [p2,h3]),List.take_left' h3,List.drop_left' h3,hm]
theorem BtI {b r:List UInt8} {e:En} (h:pEn b=some (e,r)):e.id.length=20∧r.length<b.length∧(Aai e.mode=true→b=enB e++r):=by
 unfold pEn at h
 split at h
 ·cases h
 rename_i i hi
 split at h
 ·cases h
 rename_i j hj
 split at h
 ·cases h
 rename_i m hm
 split at h
 ·cases h
 rename_i hc
 simp only [Option.some.injEq,Prod.mk.injEq] at h
 obtain ⟨rfl,rfl⟩:=h
 simp only [not_or,Nat.not_lt] at hc
 obtain ⟨c1,c2,c3⟩:=Nj hi
 obtain ⟨d1,d2,d3⟩:=Nj hj
 have hb:b=b.take i++32::b.drop (i+1):=by
  have e1:b=b.take i++b.drop i:=(List.take_append_drop i b).symm
  have e2:b.drop i=32::b.drop (i+1):=by
   rw [List.drop_eq_getElem_cons c1]
   rw [List.getElem?_eq_getElem c1] at c2
   rw [Option.some.inj c2]
  rw [e2] at e1; exact e1
 generalize hR:b.drop (i+1)=R at *
 have hr:R=R.take j++0::R.drop (j+1):=by
  have e1:R=R.take j++R.drop j:=(List.take_append_drop j R).symm
  have e2:R.drop j=0::R.drop (j+1):=by
   rw [List.drop_eq_getElem_cons d1]
   rw [List.getElem?_eq_getElem d1] at d2
   rw [Option.some.inj d2]
  rw [e2] at e1; exact e1
 refine ⟨by simp only [List.length_take]; omega,?_,fun h1 => ?_⟩
 ·have:=congrArg List.length hb
  have h2:=congrArg List.length hr
  simp only [List.length_append,List.length_cons,List.length_drop] at this h2 ⊢
  omega
 ·simp only at h1
  have hcan:=BkO (s:=b.take i) (m:=(m:Int)) (by rw [hm]; simp) h1 hc.1
  unfold enB
  simp only
  rw [←hcan]
  have e4:(R.drop (j+1)).take 20++(R.drop (j+1)).drop 20=R.drop (j+1):=List.take_append_drop 20 _
  simp only [List.append_assoc,List.cons_append]
  rw [e4,←hr]
  exact hb
structure PI (b:List UInt8) (es:List En) (rest:List UInt8):Prop where
 pre:∀ l,(∀ e∈l,AzA e)→l.flatMap enB=b→∃ l',l=es++l'∧l'.flatMap enB=rest
 back:(∀ e∈es,Aai e.mode=true)→es.flatMap enB++rest=b
 ids:∀ e∈es,e.id.length=20
theorem PI.start (b:List UInt8):PI b [] b:=⟨fun l _ h=>⟨l,rfl,h⟩,fun _=>rfl,fun _ h=>by cases h⟩
theorem PI.step {b rest r:List UInt8} {es:List En} {e:En} (h:PI b es rest) (hp:pEn rest=some (e,r)):PI b (es++[e]) r:=by
 obtain ⟨h1,h2,h3⟩:=h
 obtain ⟨p1,p2,p3⟩:=BtI hp
 refine ⟨fun l hl hb => ?_,fun hm => ?_,fun x hx => ?_⟩
 ·obtain ⟨l',rfl,hl'⟩:=h1 l hl hb
  cases l' with
  | nil =>
   simp only [List.flatMap_nil] at hl'
   rw [←hl'] at p2
   simp at p2
  | cons x l'' =>
   rw [List.flatMap_cons] at hl'
   have:=Bpg (r:=l''.flatMap enB) (hl x (by simp))
   rw [hl',hp] at this
   simp only [Option.some.injEq,Prod.mk.injEq] at this
   obtain ⟨rfl,rfl⟩:=this
   exact ⟨l'',by simp,rfl⟩
 ·have a:=h2 fun x hx=>hm x (by simp [hx])
  rw [p3 (hm e (by simp))] at a
  rw [←a]; simp
 ·rcases List.mem_append.1 hx with hx | hx
  ·exact h3 x hx
  ·rw [List.mem_singleton] at hx; subst hx; exact p1
theorem PI.no {b rest:List UInt8} {es:List En} (h:PI b es rest) (hne:rest≠[]) (hp:pEn rest=none):∀ l,¬ U2 l b:=by
 rintro l ⟨⟨_,hl,_⟩,_,hb⟩
 obtain ⟨l',rfl,hl'⟩:=h.pre l hl hb
 cases l' with
 | nil=>exact hne hl'.symm
 | cons x l'' =>
  rw [List.flatMap_cons] at hl'
  have:=Bpg (r:=l''.flatMap enB) (hl x (by simp))
  rw [hl',hp] at this
  cases this
theorem PI.unsorted {b r:List UInt8} {es:List En} {x e:En} (h:PI b (es++[x]++[e]) r) (hk:¬ ltB (Yb x) (Yb e)):∀ l,¬ U2 l b:=by
 rintro l ⟨⟨_,hl,_⟩,hs,hb⟩
 obtain ⟨l',rfl,_⟩:=h.pre l hl hb
 rw [SE,List.append_assoc,List.append_assoc,List.pairwise_append] at hs
 exact hk ((List.pairwise_cons.1 hs.2.1).1 e (by simp))
def Bkc (b:List UInt8) (r:TV):Prop:=(∀ l,U2 l b→r = .tup [.sl 22 (l.map fun e:En => .agg [.val (.int .i64 e.mode),.val (.string (str e.name)),.arr 20 1 (e.id.map by8)]),.val .nilIface])∧((∀ l,¬ U2 l b)→r = .tup [.val (.slice none 0 0),.ifc 34 (.val (.int .i64 21))])
theorem PI.fin {b:List UInt8} {es:List En} (h:PI b es []) (hs:SE es):(Ac5 es→U2 es b)∧(∀ l,U2 l b→l=es∧Ac5 es):=by
 constructor
 ·intro ht
  refine ⟨ht,hs,?_⟩
  have:=h.back fun e he=>(ht.2.1 e he).1
  simpa using this
 ·rintro l ⟨ht,hsl,hb⟩
  obtain ⟨l',rfl,hl'⟩:=h.pre l ht.2.1 hb
  cases l' with
  | nil=>rw [List.append_nil] at ht ⊢; exact ⟨rfl,ht⟩
  | cons x l'' =>
   exfalso
   rw [List.flatMap_cons] at hl'
   have:=congrArg List.length hl'
   simp [enB] at this
theorem SE.snoc {es:List En} {x e:En} (h:SE (es++[x])) (hk:ltB (Yb x) (Yb e)):SE (es++[x]++[e]):=by
 rw [SE,List.pairwise_append]
 refine ⟨h,by simp,fun a ha y hy => ?_⟩
 rw [List.mem_singleton] at hy; subst hy
 rcases List.mem_append.1 ha with ha | ha
 ·rw [SE,List.pairwise_append] at h
  exact AlC (h.2.2 a ha x (by simp)) hk
 ·rw [List.mem_singleton] at ha; subst ha; exact hk
end
section
open Go.RowKit Go.Sort Go.Shelf
variable [Cc]
abbrev Bzz:={l:List UInt8 // l.length=20}
instance:Inhabited Bzz:=⟨⟨List.replicate 20 0,by simp⟩⟩
end
section
open Go.RowKit Go.Sort Go.Shelf
variable [Cc]
end
section
variable [Cc]
set_option maxRecDepth 100000
def SV:AP := .block 1 (.seq (.ops [mv_ 18 4,so_ 19 (.call 79 [.t 18,.c (.string (str [112,97,114,101,110,116]))]),mv_ 17 19,po_ 20 (.ext 0 (.t 17)),po_ 21 (.ext 1 (.t 17)),mv_ 6 20,mv_ 7 21] [2,4,5,6,7])
 (.seq (.seq (.ops [mv_ 22 7,po_ 23 (.un .not (.t 22))] [2,4,5,6,23])
 (.cond (.t 23)
 (.exit 0)
 (.skip)))
 (.sdraw 2 [po_ 24 (.fieldA 1 20 (.t 5)),po_ 25 (.load false 1 (.t 24)),mv_ 26 4,mv_ 27 6,so_ 28 (.call 71 [.t 26,.t 27]),⟨some 29,.s (.bslice 20 1 (.arr 20 1 [.val (.int .u8 ((0:Nat):Int)),.val (.int .u8 ((0:Nat):Int)),.val (.int .u8 ((0:Nat):Int)),.val (.int .u8 ((0:Nat):Int)),.val (.int .u8 ((0:Nat):Int)),.val (.int .u8 ((0:Nat):Int)),.val (.int .u8 ((0:Nat):Int)),.val (.int .u8 ((0:Nat):Int)),.val (.int .u8 ((0:Nat):Int)),.val (.int .u8 ((0:Nat):Int)),.val (.int .u8 ((0:Nat):Int)),.val (.int .u8 ((0:Nat):Int)),.val (.int .u8 ((0:Nat):Int)),.val (.int .u8 ((0:Nat):Int)),.val (.int .u8 ((0:Nat):Int)),.val (.int .u8 ((0:Nat):Int)),.val (.int .u8 ((0:Nat):Int)),.val (.int .u8 ((0:Nat):Int)),.val (.int .u8 ((0:Nat):Int)),.val (.int .u8 ((0:Nat):Int))]) [⟨0,.t 28⟩]),none⟩,so_ 30 (.app 20 20 23 (.t 25) (.t 29)),po_ 31 (.fieldA 1 20 (.t 5)),⟨none,.s (.store 1 (.t 31) (.t 30)),none⟩] [2,4,5])))
def Si:AP := .seq (.seq (.ops [mv_ 41 4,po_ 42 (.nilc (.t 41)),po_ 43 (.fieldA 1 1 (.t 42)),po_ 44 (.load false 1 (.t 43)),mv_ 45 44,⟨some 46,.p (.fieldA 1 20 (.t 5)),some ⟨45,false⟩⟩,⟨some 47,.p (.load false 1 (.t 46)),some ⟨45,false⟩⟩,⟨some 48,.p (.lenV (.t 47)),some ⟨45,false⟩⟩,⟨some 49,.p (.bin 3 .gtr (.t 48) (ci_ 8)),some ⟨45,false⟩⟩,po_ 50 (.pick (.t 45) (.c (.bool true)) (.t 49)),mv_ 51 50,⟨some 52,.p (.fieldA 1 20 (.t 5)),some ⟨51,false⟩⟩,⟨some 53,.p (.load false 1 (.t 52)),some ⟨51,false⟩⟩,⟨some 54,.s (.call 42 [.t 53]),some ⟨51,false⟩⟩,po_ 55 (.pick (.t 51) (.c (.bool true)) (.t 54))] [2,5,55])
 (.cond (.t 55)
 (.seq (.ops [po_ 56 (.build [.arr 20 1 [.val (.int .u8 ((0:Nat):Int)),.val (.int .u8 ((0:Nat):Int)),.val (.int .u8 ((0:Nat):Int)),.val (.int .u8 ((0:Nat):Int)),.val (.int .u8 ((0:Nat):Int)),.val (.int .u8 ((0:Nat):Int)),.val (.int .u8 ((0:Nat):Int)),.val (.int .u8 ((0:Nat):Int)),.val (.int .u8 ((0:Nat):Int)),.val (.int .u8 ((0:Nat):Int)),.val (.int .u8 ((0:Nat):Int)),.val (.int .u8 ((0:Nat):Int)),.val (.int .u8 ((0:Nat):Int)),.val (.int .u8 ((0:Nat):Int)),.val (.int .u8 ((0:Nat):Int)),.val (.int .u8 ((0:Nat):Int)),.val (.int .u8 ((0:Nat):Int)),.val (.int .u8 ((0:Nat):Int)),.val (.int .u8 ((0:Nat):Int)),.val (.int .u8 ((0:Nat):Int))],.val (.slice none 0 0),.agg [.val (.string (str [])),.val (.string (str [])),.val (.int .i64 ((0:Nat):Int)),.val (.int .i64 ((0:Nat):Int))],.agg [.val (.string (str [])),.val (.string (str [])),.val (.int .i64 ((0:Nat):Int)),.val (.int .i64 ((0:Nat):Int))],.val (.string (str []))] [20,1,4,4,1] []),po_ 57 (.iface 34 (ci_ 22)),⟨none,.s (.store 30 (.t 2) (.t 56)),none⟩,mv_ 3 57] [2,3])
  (.ret))
 (.skip)))
 (.seq (.ops [po_ 58 (.load true 30 (.t 5)),⟨none,.s (.store 30 (.t 2) (.t 58)),none⟩,po_ 3 (.mov (.c .nilIface))] [2,3])
 (.ret))
def Rn:AP := .seq (.ops [mv_ 38 4,so_ 39 (.call 75 [.t 38]),po_ 40 (.fieldA 4 29 (.t 5)),⟨none,.s (.store 1 (.t 40) (.t 39)),none⟩] [2,4,5])
 Si
def SX:AP := .seq (.ops [mv_ 32 4,so_ 33 (.call 74 [.t 32,.c (.string (str [97,117,116,104,111,114]))]),mv_ 34 4,so_ 35 (.call 74 [.t 34,.c (.string (str [99,111,109,109,105,116,116,101,114]))]),po_ 36 (.fieldA 2 21 (.t 5)),⟨none,.s (.store 4 (.t 36) (.t 33)),none⟩,po_ 37 (.fieldA 3 25 (.t 5)),⟨none,.s (.store 4 (.t 37) (.t 35)),none⟩] [2,4,5])
 Rn
def Sj:AP := .seq (.block 0 (.ownB 5 [(1,20)] 20 (.loop [2,4,5] SV)))
 SX
def SG:AP := .seq (.ops [mv_ 12 4,mv_ 13 4,so_ 14 (.call 72 [.t 13,.c (.string (str [116,114,101,101]))]),so_ 15 (.call 71 [.t 12,.t 14]),po_ 16 (.fieldA 0 0 (.t 5)),⟨none,.s (.store 20 (.t 16) (.t 15)),none⟩] [2,4,5])
 Sj
def Rx:AP := .seq (.ops [so_ 5 (.alloc (.agg [.arr 20 1 [.val (.int .u8 ((0:Nat):Int)),.val (.int .u8 ((0:Nat):Int)),.val (.int .u8 ((0:Nat):Int)),.val (.int .u8 ((0:Nat):Int)),.val (.int .u8 ((0:Nat):Int)),.val (.int .u8 ((0:Nat):Int)),.val (.int .u8 ((0:Nat):Int)),.val (.int .u8 ((0:Nat):Int)),.val (.int .u8 ((0:Nat):Int)),.val (.int .u8 ((0:Nat):Int)),.val (.int .u8 ((0:Nat):Int)),.val (.int .u8 ((0:Nat):Int)),.val (.int .u8 ((0:Nat):Int)),.val (.int .u8 ((0:Nat):Int)),.val (.int .u8 ((0:Nat):Int)),.val (.int .u8 ((0:Nat):Int)),.val (.int .u8 ((0:Nat):Int)),.val (.int .u8 ((0:Nat):Int)),.val (.int .u8 ((0:Nat):Int)),.val (.int .u8 ((0:Nat):Int))],.val (.slice none 0 0),.agg [.val (.string (str [])),.val (.string (str [])),.val (.int .i64 ((0:Nat):Int)),.val (.int .i64 ((0:Nat):Int))],.agg [.val (.string (str [])),.val (.string (str [])),.val (.int .i64 ((0:Nat):Int)),.val (.int .i64 ((0:Nat):Int))],.val (.string (str []))]))] [2,4,5])
 SG
def Q3:AP := .seq (.ops [mv_ 8 0,po_ 9 (.b2s (.t 8)),⟨some 10,.p (.build [.val (.string (str [])),.val (.bool false)] [1,1] [⟨0,.t 9⟩]),none⟩,so_ 11 (.box (.t 10)),mv_ 4 11] [2,4])
 Rx
def ZI:AP := .seq (.ops [so_ 2 (.alloc (.agg [.arr 20 1 [.val (.int .u8 ((0:Nat):Int)),.val (.int .u8 ((0:Nat):Int)),.val (.int .u8 ((0:Nat):Int)),.val (.int .u8 ((0:Nat):Int)),.val (.int .u8 ((0:Nat):Int)),.val (.int .u8 ((0:Nat):Int)),.val (.int .u8 ((0:Nat):Int)),.val (.int .u8 ((0:Nat):Int)),.val (.int .u8 ((0:Nat):Int)),.val (.int .u8 ((0:Nat):Int)),.val (.int .u8 ((0:Nat):Int)),.val (.int .u8 ((0:Nat):Int)),.val (.int .u8 ((0:Nat):Int)),.val (.int .u8 ((0:Nat):Int)),.val (.int .u8 ((0:Nat):Int)),.val (.int .u8 ((0:Nat):Int)),.val (.int .u8 ((0:Nat):Int)),.val (.int .u8 ((0:Nat):Int)),.val (.int .u8 ((0:Nat):Int)),.val (.int .u8 ((0:Nat):Int))],.val (.slice none 0 0),.agg [.val (.string (str [])),.val (.string (str [])),.val (.int .i64 ((0:Nat):Int)),.val (.int .i64 ((0:Nat):Int))],.agg [.val (.string (str [])),.val (.string (str [])),.val (.int .i64 ((0:Nat):Int)),.val (.int .i64 ((0:Nat):Int))],.val (.string (str []))])),po_ 3 (.mov (.c .nilIface))] [0,2])
 Q3
def YZ:List VR:=[.cell 2 true 30,.tmp 3]
theorem AoC:Tryz.f43.body.bind (trC Tryz.prog Tryz.f43.ntmps)=some (er ZI):=by kernel_rfl
theorem Aqc:trR Tryz.prog Tryz.f43.results.toList=some YZ:=by kernel_rfl
def AcU:=Ac SV.eq_1
def KR:=Ac Si.eq_1
def AfO:=Ac Rn.eq_1
def Ac2:=Ac SX.eq_1
def Ade:=Ac Sj.eq_1
def Afs:=Ac SG.eq_1
def Afl:=Ac Rx.eq_1
def AfF:=Ac Q3.eq_1
def Aj9:=Ac ZI.eq_1
theorem Jw {K:TV→Prop} {e:Env} {H:List Ob}:res YZ e H K=res [.cell 2 true 30,.tmp 3] e H K:=Ap rfl
def Ama:=ES 59 Tryz.func43 AoC Aqc rfl
def Afw:AP := .seq (.block 1 (.seq (.ops [po_ 11 (.idxA 20 (.t 7) (.t 9)),po_ 12 (.load true 20 (.t 11)),so_ 5 (.alloc (.arr 20 1 [.val (.int .u8 ((0:Nat):Int)),.val (.int .u8 ((0:Nat):Int)),.val (.int .u8 ((0:Nat):Int)),.val (.int .u8 ((0:Nat):Int)),.val (.int .u8 ((0:Nat):Int)),.val (.int .u8 ((0:Nat):Int)),.val (.int .u8 ((0:Nat):Int)),.val (.int .u8 ((0:Nat):Int)),.val (.int .u8 ((0:Nat):Int)),.val (.int .u8 ((0:Nat):Int)),.val (.int .u8 ((0:Nat):Int)),.val (.int .u8 ((0:Nat):Int)),.val (.int .u8 ((0:Nat):Int)),.val (.int .u8 ((0:Nat):Int)),.val (.int .u8 ((0:Nat):Int)),.val (.int .u8 ((0:Nat):Int)),.val (.int .u8 ((0:Nat):Int)),.val (.int .u8 ((0:Nat):Int)),.val (.int .u8 ((0:Nat):Int)),.val (.int .u8 ((0:Nat):Int))])),⟨none,.s (.store 20 (.t 5) (.t 12)),none⟩] [3,5,7,8,9])
 (.seq (.draw 4 [mv_ 13 3,po_ 14 (.load true 20 (.t 5)),po_ 15 (.gen (.look (.arr 20) (.val (.int .i64 ((0:Nat):Int))) false) [.t 13,.t 14]),po_ 16 (.bin 3 .add (.t 15) (ci_ 1)),so_ 17 (.ment (.arr 20) (.val (.int .i64 ((0:Nat):Int))) (.t 13) (.t 14)),po_ 18 (.ext 1 (.t 17)),⟨none,.s (.mest (.t 13) (.t 18) (.t 16)),none⟩] [3,5,7,8,9])
 (.seq (.ops [mv_ 19 3,po_ 20 (.load true 20 (.t 5)),po_ 21 (.gen (.look (.arr 20) (.val (.int .i64 ((0:Nat):Int))) false) [.t 19,.t 20]),po_ 22 (.bin 3 .gtr (.t 21) (ci_ 1))] [3,7,8,9,22])
 (.cond (.t 22)
 (.seq (.ops [po_ 2 (.mov (.c (.bool true)))] [2])
  (.ret))
 (.skip))))))
 (.ops [po_ 23 (.bin 3 .add (.t 9) (ci_ 1)),mv_ 9 23] [3,7,8,9])
def AeC:AP := .seq (.cond (.t 10)
 (.skip)
 (.exit 0))
 Afw
def AeT:AP := .seq (.ops [po_ 10 (.bin 3 .lss (.t 9) (.t 8))] [3,7,8,9,10])
 AeC
def AfR:AP := .block 0 (.loop [3,7,8,9] AeT)
def Adc:AP := .seq (.ops [po_ 2 (.mov (.c (.bool false)))] [2])
 (.ret)
def AfT:AP := .seq (.seq (.ops [mv_ 7 0,po_ 8 (.lenV (.t 7)),po_ 9 (.mov (ci_ 0))] [3,7,8,9])
 AfR)
 Adc
def Adt:AP := .seq (.ops [so_ 6 (.mkm (.arr 20) none),mv_ 3 6] [0,3])
 AfT
def Am6:AP := .seq (.ops [po_ 2 (.mov (.c (.bool false)))] [0])
 Adt
def Anx:List VR:=[.tmp 2]
theorem Awd:Tryz.f42.body.bind (trC Tryz.prog Tryz.f42.ntmps)=some (er Am6):=by kernel_rfl
theorem Awc:trR Tryz.prog Tryz.f42.results.toList=some Anx:=by kernel_rfl
def Aoe:=Ac Afw.eq_1
def Zn:=Ac AeC.eq_1
def Y7:=Ac AeT.eq_1
def Ao9:=Ac AfR.eq_1
def Aow:=Ac Adc.eq_1
def Aqh:=Ac AfT.eq_1
def ApL:=Ac Adt.eq_1
def Auf:=Ac Am6.eq_1
theorem Ait {K:TV→Prop} {e:Env} {H:List Ob}:res Anx e H K=res [.tmp 2] e H K:=Ap rfl
def AvI:=ES 24 Tryz.func42 Awd Awc rfl
def UL:AP := .seq (.block 3 (.seq (.draw 5 [po_ 60 (.fieldA 1 20 (.t 1)),po_ 61 (.load false 1 (.t 60)),mv_ 62 11,po_ 63 (.idxA 20 (.t 61) (.t 62)),po_ 64 (.load true 20 (.t 63)),po_ 65 (.fieldA 1 20 (.t 1)),po_ 66 (.load false 1 (.t 65)),mv_ 67 10,po_ 68 (.idxA 20 (.t 66) (.t 67)),po_ 69 (.load true 20 (.t 68)),po_ 70 (.gen (.eqA 20 false) [.t 64,.t 69])] [1,4,6,9,10,11,70])
 (.cond (.t 70)
 (.seq (.ops [po_ 2 (.mov (.c (.slice none 0 0))),po_ 3 (.mov (ci_ 22))] [2,3])
  (.ret))
 (.skip))))
 (.ops [mv_ 58 11,po_ 59 (.bin 3 .add (.t 58) (ci_ 1)),mv_ 11 59] [1,4,6,9,10,11])
def VL:AP := .seq (.seq (.ops [mv_ 55 11,mv_ 56 10,po_ 57 (.bin 3 .lss (.t 55) (.t 56))] [1,4,6,9,10,11,57])
 (.cond (.t 57)
 (.skip)
 (.exit 2)))
 UL
def VS:AP := .block 2 (.loop [1,4,6,9,10,11] VL)
def Vu:AP := .ops [mv_ 71 9,po_ 72 (.bin 9 .add (.t 71) (.c (.string (str [112,97,114,101,110,116,32])))),po_ 73 (.fieldA 1 20 (.t 1)),po_ 74 (.load false 1 (.t 73)),mv_ 75 10,po_ 76 (.idxA 20 (.t 74) (.t 75)),po_ 77 (.load true 20 (.t 76)),so_ 78 (.call 36 [.t 77]),po_ 79 (.bin 9 .add (.t 72) (.t 78)),po_ 80 (.bin 9 .add (.t 79) (.c (.string (str [10])))),mv_ 9 80] [1,4,6,9,10]
def VQ:AP := .ops [mv_ 53 10,po_ 54 (.bin 3 .add (.t 53) (ci_ 1)),mv_ 10 54] [1,4,6,9,10]
def VB:AP := .seq (.block 1 (.seq (.seq (.ops [po_ 11 (.mov (ci_ 0))] [1,4,6,9,10,11])
 VS)
 Vu))
 VQ
def UY:AP := .seq (.seq (.ops [mv_ 48 10,po_ 49 (.fieldA 1 20 (.t 1)),po_ 50 (.load false 1 (.t 49)),po_ 51 (.lenV (.t 50)),po_ 52 (.bin 3 .lss (.t 48) (.t 51))] [1,4,6,9,10,52])
 (.cond (.t 52)
 (.skip)
 (.exit 0)))
 VB
def UH:AP := .block 0 (.loop [1,4,6,9,10] UY)
def Ul:AP := .seq (.ops [mv_ 81 9,po_ 82 (.bin 9 .add (.t 81) (.c (.string (str [97,117,116,104,111,114,32])))),mv_ 83 4,po_ 84 (.bin 9 .add (.t 82) (.t 83)),po_ 85 (.bin 9 .add (.t 84) (.c (.string (str [10,99,111,109,109,105,116,116,101,114,32])))),mv_ 86 6,po_ 87 (.bin 9 .add (.t 85) (.t 86)),po_ 88 (.bin 9 .add (.t 87) (.c (.string (str [10,10])))),po_ 89 (.fieldA 4 29 (.t 1)),po_ 90 (.load false 1 (.t 89)),po_ 91 (.bin 9 .add (.t 88) (.t 90)),mv_ 9 91] [9])
 (.seq (.ops [mv_ 92 9,so_ 93 (.s2b (.t 92)),mv_ 2 93,po_ 3 (.mov (ci_ 0))] [2,3])
 (.ret))
def SQ:AP := .seq (.seq (.ops [po_ 10 (.mov (ci_ 0))] [1,4,6,9,10])
 UH)
 Ul
def Rj:AP := .seq (.ops [po_ 43 (.fieldA 0 0 (.t 1)),po_ 44 (.load true 20 (.t 43)),so_ 45 (.call 36 [.t 44]),po_ 46 (.bin 9 .add (.c (.string (str [116,114,101,101,32]))) (.t 45)),po_ 47 (.bin 9 .add (.t 46) (.c (.string (str [10])))),mv_ 9 47] [1,4,6,9])
 SQ
def Rl:AP := .seq (.seq (.ops [po_ 27 (.fieldA 1 20 (.t 1)),po_ 28 (.load false 1 (.t 27)),po_ 29 (.lenV (.t 28)),po_ 30 (.bin 3 .gtr (.t 29) (ci_ 8)),mv_ 31 30,⟨some 32,.p (.mov (.t 5)),some ⟨31,false⟩⟩,⟨some 33,.p (.un .not (.t 32)),some ⟨31,false⟩⟩,po_ 34 (.pick (.t 31) (.c (.bool true)) (.t 33)),mv_ 35 34,⟨some 36,.p (.mov (.t 7)),some ⟨35,false⟩⟩,⟨some 37,.p (.un .not (.t 36)),some ⟨35,false⟩⟩,po_ 38 (.pick (.t 35) (.c (.bool true)) (.t 37)),mv_ 39 38,⟨some 40,.p (.mov (.t 8)),some ⟨39,false⟩⟩,⟨some 41,.p (.un .not (.t 40)),some ⟨39,false⟩⟩,po_ 42 (.pick (.t 39) (.c (.bool true)) (.t 41))] [1,4,6,42])
 (.cond (.t 42)
 (.seq (.ops [po_ 2 (.mov (.c (.slice none 0 0))),po_ 3 (.mov (ci_ 22))] [2,3])
  (.ret))
 (.skip)))
 Rj
def RZ:AP := .seq (.ops [po_ 24 (.fieldA 4 29 (.t 1)),po_ 25 (.load false 1 (.t 24)),so_ 26 (.call 34 [.t 25]),mv_ 8 26] [1,4,5,6,7,8])
 Rl
def Ry:AP := .seq (.ops [po_ 19 (.fieldA 3 25 (.t 1)),po_ 20 (.load true 4 (.t 19)),so_ 21 (.call 33 [.t 20]),mv_ 18 21,po_ 22 (.ext 0 (.t 18)),po_ 23 (.ext 1 (.t 18)),mv_ 6 22,mv_ 7 23] [1,4,5,6,7])
 RZ
def SK:AP := .seq (.ops [po_ 13 (.fieldA 2 21 (.t 1)),po_ 14 (.load true 4 (.t 13)),so_ 15 (.call 33 [.t 14]),mv_ 12 15,po_ 16 (.ext 0 (.t 12)),po_ 17 (.ext 1 (.t 12)),mv_ 4 16,mv_ 5 17] [1,4,5])
 Ry
def Aa7:AP := .seq (.ops [so_ 1 (.box (.t 0)),po_ 2 (.mov (.c (.slice none 0 0))),po_ 3 (.mov (ci_ 0))] [1])
 SK
def Abe:List VR:=[.tmp 2,.tmp 3]
theorem Ard:Tryz.f15.body.bind (trC Tryz.prog Tryz.f15.ntmps)=some (er Aa7):=by kernel_rfl
theorem Arc:trR Tryz.prog Tryz.f15.results.toList=some Abe:=by kernel_rfl
def PU:=Ac UL.eq_1
def Lj:=Ac VL.eq_1
def AgS:=Ac VS.eq_1
def Agk:=Ac Vu.eq_1
def Ahv:=Ac VQ.eq_1
def AgG:=Ac VB.eq_1
def Qx:=Ac UY.eq_1
def Aht:=Ac UH.eq_1
def Ag2:=Ac Ul.eq_1
def Ae6:=Ac SQ.eq_1
def AeM:=Ac Rj.eq_1
def EY:=Ac Rl.eq_1
def Ad6:=Ac RZ.eq_1
def AcR:=Ac Ry.eq_1
def Af2:=Ac SK.eq_1
def AmZ:=Ac Aa7.eq_1
theorem F9 {K:TV→Prop} {e:Env} {H:List Ob}:res Abe e H K=res [.tmp 2,.tmp 3] e H K:=Ap rfl
def AoN:=ES 94 Tryz.func15 Ard Arc rfl
def WF:AP := .seq (.ops [mv_ 51 10,so_ 52 (.call 77 [.t 51]),mv_ 50 52,po_ 53 (.ext 0 (.t 50)),po_ 54 (.ext 1 (.t 50)),⟨none,.s (.store 20 (.t 8) (.t 53)),none⟩,mv_ 9 54] [0,2,4,5,8,9])
 (.seq (.seq (.ops [mv_ 55 9,po_ 56 (.un .not (.t 55))] [0,2,4,5,8,56])
 (.cond (.t 56)
 (.seq (.ops [po_ 57 (.load true 30 (.t 4)),⟨none,.s (.store 30 (.t 2) (.t 57)),none⟩,po_ 3 (.mov (.c (.bool false)))] [2,3])
  (.ret))
 (.skip)))
 (.ops [po_ 58 (.fieldA 1 20 (.t 4)),po_ 59 (.load false 1 (.t 58)),po_ 60 (.load true 20 (.t 8)),⟨some 61,.s (.bslice 20 1 (.arr 20 1 [.val (.int .u8 ((0:Nat):Int)),.val (.int .u8 ((0:Nat):Int)),.val (.int .u8 ((0:Nat):Int)),.val (.int .u8 ((0:Nat):Int)),.val (.int .u8 ((0:Nat):Int)),.val (.int .u8 ((0:Nat):Int)),.val (.int .u8 ((0:Nat):Int)),.val (.int .u8 ((0:Nat):Int)),.val (.int .u8 ((0:Nat):Int)),.val (.int .u8 ((0:Nat):Int)),.val (.int .u8 ((0:Nat):Int)),.val (.int .u8 ((0:Nat):Int)),.val (.int .u8 ((0:Nat):Int)),.val (.int .u8 ((0:Nat):Int)),.val (.int .u8 ((0:Nat):Int)),.val (.int .u8 ((0:Nat):Int)),.val (.int .u8 ((0:Nat):Int)),.val (.int .u8 ((0:Nat):Int)),.val (.int .u8 ((0:Nat):Int)),.val (.int .u8 ((0:Nat):Int))]) [⟨0,.t 60⟩]),none⟩,so_ 62 (.app 20 20 22 (.t 59) (.t 61)),po_ 63 (.fieldA 1 20 (.t 4)),⟨none,.s (.store 1 (.t 63) (.t 62)),none⟩] [0,2,4,5,8]))
def WH:AP := .seq (.ops [mv_ 49 11,mv_ 5 49] [0,2,4,5,8,10])
 WF
def Xx:AP := .seq (.seq (.ops [mv_ 47 12,po_ 48 (.un .not (.t 47))] [0,2,4,5,8,10,11,48])
 (.cond (.t 48)
 (.exit 0)
 (.skip)))
 WH
def Xh:AP := .block 1 (.seq (.ops [mv_ 42 5,so_ 43 (.call 76 [.t 42,.c (.string (str [112,97,114,101,110,116]))]),mv_ 41 43,po_ 44 (.ext 0 (.t 41)),po_ 45 (.ext 1 (.t 41)),po_ 46 (.ext 2 (.t 41)),mv_ 10 44,mv_ 11 45,mv_ 12 46] [0,2,4,5,8,10,11,12])
 Xx)
def Xa:AP := .seq (.sdraw 16 [po_ 113 (.load true 30 (.t 4)),mv_ 114 14,mv_ 115 114,⟨some 116,.p (.mov (.t 16)),some ⟨115,true⟩⟩,po_ 117 (.pick (.t 115) (.t 116) (.c (.bool false))),mv_ 118 117,⟨some 119,.p (.mov (.t 18)),some ⟨118,true⟩⟩,⟨some 120,.p (.bin 3 .eql (.t 119) (ci_ 0)),some ⟨118,true⟩⟩,po_ 121 (.pick (.t 118) (.t 120) (.c (.bool false))),mv_ 122 121,⟨some 123,.p (.mov (.t 17)),some ⟨122,true⟩⟩,⟨some 124,.p (.b2s (.t 123)),some ⟨122,true⟩⟩,⟨some 125,.p (.mov (.t 0)),some ⟨122,true⟩⟩,⟨some 126,.p (.b2s (.t 125)),some ⟨122,true⟩⟩,⟨some 127,.p (.bin 9 .eql (.t 124) (.t 126)),some ⟨122,true⟩⟩,po_ 128 (.pick (.t 122) (.t 127) (.c (.bool false))),⟨none,.s (.store 30 (.t 2) (.t 113)),none⟩,mv_ 3 128] [2,3])
 (.ret)
def Xw:AP := .seq (.ops [po_ 109 (.load true 30 (.t 4)),so_ 110 (.call 15 [.t 109]),mv_ 108 110,po_ 111 (.ext 0 (.t 108)),po_ 112 (.ext 1 (.t 108)),mv_ 17 111,mv_ 18 112] [0,2,4,14,16,17,18])
 Xa
def Xd:AP := .seq (.ops [mv_ 105 5,po_ 106 (.slS (.t 105) (some (ci_ 1)) none),po_ 107 (.fieldA 4 29 (.t 4)),⟨none,.s (.store 1 (.t 107) (.t 106)),none⟩] [0,2,4,14,16])
 Xw
def Xq:AP := .seq (.ops [mv_ 100 15,so_ 101 (.call 78 [.t 100]),mv_ 99 101,po_ 102 (.ext 0 (.t 99)),po_ 103 (.ext 1 (.t 99)),po_ 104 (.fieldA 3 25 (.t 4)),⟨none,.s (.store 4 (.t 104) (.t 102)),none⟩,mv_ 16 103] [0,2,4,5,14,16])
 Xd
def Xj:AP := .seq (.ops [mv_ 94 13,so_ 95 (.call 78 [.t 94]),mv_ 93 95,po_ 96 (.ext 0 (.t 93)),po_ 97 (.ext 1 (.t 93)),po_ 98 (.fieldA 2 21 (.t 4)),⟨none,.s (.store 4 (.t 98) (.t 96)),none⟩,mv_ 14 97] [0,2,4,5,14,15])
 Xq
def Vz:AP := .seq (.seq (.ops [mv_ 76 14,po_ 77 (.un .not (.t 76)),mv_ 78 77,⟨some 79,.p (.mov (.t 16)),some ⟨78,false⟩⟩,⟨some 80,.p (.un .not (.t 79)),some ⟨78,false⟩⟩,po_ 81 (.pick (.t 78) (.c (.bool true)) (.t 80)),mv_ 82 81,⟨some 83,.p (.mov (.t 5)),some ⟨82,false⟩⟩,⟨some 84,.p (.lenS (.t 83)),some ⟨82,false⟩⟩,⟨some 85,.p (.bin 3 .lss (.t 84) (ci_ 1)),some ⟨82,false⟩⟩,po_ 86 (.pick (.t 82) (.c (.bool true)) (.t 85)),mv_ 87 86,⟨some 88,.p (.mov (.t 5)),some ⟨87,false⟩⟩,⟨some 89,.p (.idxS (.t 88) (ci_ 0)),some ⟨87,false⟩⟩,⟨some 90,.p (.bin 5 .neq (.t 89) (.c (.int .u8 ((10:Nat):Int)))),some ⟨87,false⟩⟩,po_ 91 (.pick (.t 87) (.c (.bool true)) (.t 90))] [0,2,4,5,13,15,91])
 (.cond (.t 91)
 (.seq (.ops [po_ 92 (.load true 30 (.t 4)),⟨none,.s (.store 30 (.t 2) (.t 92)),none⟩,po_ 3 (.mov (.c (.bool false)))] [2,3])
  (.ret))
 (.skip)))
 Xj
def UD:AP := .seq (.ops [mv_ 71 5,so_ 72 (.call 76 [.t 71,.c (.string (str [99,111,109,109,105,116,116,101,114]))]),mv_ 70 72,po_ 73 (.ext 0 (.t 70)),po_ 74 (.ext 1 (.t 70)),po_ 75 (.ext 2 (.t 70)),mv_ 15 73,mv_ 5 74,mv_ 16 75] [0,2,4,5,13,14,15,16])
 Vz
def VG:AP := .seq (.ops [mv_ 65 5,so_ 66 (.call 76 [.t 65,.c (.string (str [97,117,116,104,111,114]))]),mv_ 64 66,po_ 67 (.ext 0 (.t 64)),po_ 68 (.ext 1 (.t 64)),po_ 69 (.ext 2 (.t 64)),mv_ 13 67,mv_ 5 68,mv_ 14 69] [0,2,4,5,13,14])
 UD
def UT:AP := .seq (.block 0 (.ownB 4 [(1,20)] 20 (.loop [0,2,4,5,8] Xh)))
 VG
def VT:AP := .seq (.ops [po_ 39 (.load true 20 (.t 8)),po_ 40 (.fieldA 0 0 (.t 4)),⟨none,.s (.store 20 (.t 40) (.t 39)),none⟩] [0,2,4,5,8])
 UT
def UR:AP := .seq (.seq (.ops [mv_ 32 7,po_ 33 (.un .not (.t 32)),mv_ 34 33,⟨some 35,.p (.mov (.t 9)),some ⟨34,false⟩⟩,⟨some 36,.p (.un .not (.t 35)),some ⟨34,false⟩⟩,po_ 37 (.pick (.t 34) (.c (.bool true)) (.t 36))] [0,2,4,5,8,37])
 (.cond (.t 37)
 (.seq (.ops [po_ 38 (.load true 30 (.t 4)),⟨none,.s (.store 30 (.t 2) (.t 38)),none⟩,po_ 3 (.mov (.c (.bool false)))] [2,3])
  (.ret))
 (.skip)))
 VT
def Ut:AP := .seq (.ops [mv_ 28 6,so_ 29 (.call 77 [.t 28]),mv_ 27 29,po_ 30 (.ext 0 (.t 27)),po_ 31 (.ext 1 (.t 27)),so_ 8 (.alloc (.arr 20 1 [.val (.int .u8 ((0:Nat):Int)),.val (.int .u8 ((0:Nat):Int)),.val (.int .u8 ((0:Nat):Int)),.val (.int .u8 ((0:Nat):Int)),.val (.int .u8 ((0:Nat):Int)),.val (.int .u8 ((0:Nat):Int)),.val (.int .u8 ((0:Nat):Int)),.val (.int .u8 ((0:Nat):Int)),.val (.int .u8 ((0:Nat):Int)),.val (.int .u8 ((0:Nat):Int)),.val (.int .u8 ((0:Nat):Int)),.val (.int .u8 ((0:Nat):Int)),.val (.int .u8 ((0:Nat):Int)),.val (.int .u8 ((0:Nat):Int)),.val (.int .u8 ((0:Nat):Int)),.val (.int .u8 ((0:Nat):Int)),.val (.int .u8 ((0:Nat):Int)),.val (.int .u8 ((0:Nat):Int)),.val (.int .u8 ((0:Nat):Int)),.val (.int .u8 ((0:Nat):Int))])),⟨none,.s (.store 20 (.t 8) (.t 30)),none⟩,mv_ 9 31] [0,2,4,5,7,8,9])
 UR
def UN:AP := .seq (.ops [mv_ 22 5,so_ 23 (.call 76 [.t 22,.c (.string (str [116,114,101,101]))]),mv_ 21 23,po_ 24 (.ext 0 (.t 21)),po_ 25 (.ext 1 (.t 21)),po_ 26 (.ext 2 (.t 21)),mv_ 6 24,mv_ 5 25,mv_ 7 26] [0,2,4,5,6,7])
 Ut
def VD:AP := .seq (.ops [mv_ 19 0,po_ 20 (.b2s (.t 19)),mv_ 5 20] [0,2,4,5])
 UN
def Vh:AP := .seq (.ops [so_ 4 (.alloc (.agg [.arr 20 1 [.val (.int .u8 ((0:Nat):Int)),.val (.int .u8 ((0:Nat):Int)),.val (.int .u8 ((0:Nat):Int)),.val (.int .u8 ((0:Nat):Int)),.val (.int .u8 ((0:Nat):Int)),.val (.int .u8 ((0:Nat):Int)),.val (.int .u8 ((0:Nat):Int)),.val (.int .u8 ((0:Nat):Int)),.val (.int .u8 ((0:Nat):Int)),.val (.int .u8 ((0:Nat):Int)),.val (.int .u8 ((0:Nat):Int)),.val (.int .u8 ((0:Nat):Int)),.val (.int .u8 ((0:Nat):Int)),.val (.int .u8 ((0:Nat):Int)),.val (.int .u8 ((0:Nat):Int)),.val (.int .u8 ((0:Nat):Int)),.val (.int .u8 ((0:Nat):Int)),.val (.int .u8 ((0:Nat):Int)),.val (.int .u8 ((0:Nat):Int)),.val (.int .u8 ((0:Nat):Int))],.val (.slice none 0 0),.agg [.val (.string (str [])),.val (.string (str [])),.val (.int .i64 ((0:Nat):Int)),.val (.int .i64 ((0:Nat):Int))],.agg [.val (.string (str [])),.val (.string (str [])),.val (.int .i64 ((0:Nat):Int)),.val (.int .i64 ((0:Nat):Int))],.val (.string (str []))]))] [0,2,4])
 VD
def Ad5:AP := .seq (.ops [so_ 2 (.alloc (.agg [.arr 20 1 [.val (.int .u8 ((0:Nat):Int)),.val (.int .u8 ((0:Nat):Int)),.val (.int .u8 ((0:Nat):Int)),.val (.int .u8 ((0:Nat):Int)),.val (.int .u8 ((0:Nat):Int)),.val (.int .u8 ((0:Nat):Int)),.val (.int .u8 ((0:Nat):Int)),.val (.int .u8 ((0:Nat):Int)),.val (.int .u8 ((0:Nat):Int)),.val (.int .u8 ((0:Nat):Int)),.val (.int .u8 ((0:Nat):Int)),.val (.int .u8 ((0:Nat):Int)),.val (.int .u8 ((0:Nat):Int)),.val (.int .u8 ((0:Nat):Int)),.val (.int .u8 ((0:Nat):Int)),.val (.int .u8 ((0:Nat):Int)),.val (.int .u8 ((0:Nat):Int)),.val (.int .u8 ((0:Nat):Int)),.val (.int .u8 ((0:Nat):Int)),.val (.int .u8 ((0:Nat):Int))],.val (.slice none 0 0),.agg [.val (.string (str [])),.val (.string (str [])),.val (.int .i64 ((0:Nat):Int)),.val (.int .i64 ((0:Nat):Int))],.agg [.val (.string (str [])),.val (.string (str [])),.val (.int .i64 ((0:Nat):Int)),.val (.int .i64 ((0:Nat):Int))],.val (.string (str []))])),po_ 3 (.mov (.c (.bool false)))] [0,2])
 Vh
def AdG:List VR:=[.cell 2 true 30,.tmp 3]
theorem Asz:Tryz.f44.body.bind (trC Tryz.prog Tryz.f44.ntmps)=some (er Ad5):=by kernel_rfl
theorem AsT:trR Tryz.prog Tryz.f44.results.toList=some AdG:=by kernel_rfl
def Ajw:=Ac WF.eq_1
def Ai9:=Ac WH.eq_1
def Q8:=Ac Xx.eq_1
def AiR:=Ac Xh.eq_1
def IY:=Ac Xa.eq_1
def Ai8:=Ac Xw.eq_1
def Ajd:=Ac Xd.eq_1
def Ajc:=Ac Xq.eq_1
def Ajj:=Ac Xj.eq_1
def Ia:=Ac Vz.eq_1
def Agw:=Ac UD.eq_1
def Agg:=Ac VG.eq_1
def Ahn:=Ac UT.eq_1
def Af9:=Ac VT.eq_1
def Lu:=Ac UR.eq_1
def Ag4:=Ac Ut.eq_1
def Ag0:=Ac UN.eq_1
def Ahb:=Ac VD.eq_1
def Ahs:=Ac Vh.eq_1
def ApZ:=Ac Ad5.eq_1
theorem Dk {K:TV→Prop} {e:Env} {H:List Ob}:res AdG e H K=res [.cell 2 true 30,.tmp 3] e H K:=Ap rfl
def Arr:=ES 129 Tryz.func44 Asz AsT rfl
end
section
open Go.RowKit
variable [Cc]
def Aqe (w s:List UInt8):Option (List UInt8×List UInt8):=match QO 10 s with
 | none=>none
 | some i=>if (w++[32]).isPrefixOf (s.take i) then some ((s.take i).drop (w.length+1),s.drop (i+1)) else none
theorem BjY {w v r:List UInt8} (hw:10∉w) (hv:10∉v):Aqe w (w++32::(v++10::r))=some (v,r):=by
 have e:w++32::(v++10::r)=(w++32::v)++10::r:=by simp
 have hc:QO 10 ((w++32::v)++10::r)=some (w++32::v).length:=Akd (by simp [hw,hv])
 unfold Aqe
 rw [e,hc]
 simp only [List.take_left]
 rw [if_pos (by rw [List.isPrefixOf_iff_prefix]; exact ⟨v,by simp⟩)]
 congr 1
 refine Prod.ext ?_ ?_
 ·show (w++32::v).drop (w.length+1)=v
  rw [←List.drop_drop,List.drop_left]; rfl
 ·show ((w++32::v)++10::r).drop ((w++32::v).length+1)=r
  rw [←List.drop_drop,List.drop_left]; rfl
theorem ABc {w s v r:List UInt8} (h:Aqe w s=some (v,r)):s=w++32::(v++10::r)∧10∉v:=by
 unfold Aqe at h
 split at h
 ·cases h
 ·rename_i i hc
  split at h
  ·rename_i hp
   obtain ⟨h1,h2,h3⟩:=Nj hc
   rw [List.isPrefixOf_iff_prefix] at hp
   obtain ⟨u,hu⟩:=hp
   simp only [Option.some.injEq,Prod.mk.injEq] at h
   obtain ⟨rfl,rfl⟩:=h
   have hd:(s.take i).drop (w.length+1)=u:=by
    rw [←hu,List.append_assoc,←List.drop_drop,List.drop_left]; rfl
   rw [hd]
   constructor
   ·have e1:s=s.take i++s.drop i:=(List.take_append_drop i s).symm
    have e2:s.drop i=10::s.drop (i+1):=by
     rw [List.drop_eq_getElem_cons h1]
     congr 1
     rw [List.getElem?_eq_getElem h1] at h2
     exact Option.some.inj h2
    rw [e2,←hu] at e1
    simpa using e1
   ·intro hm
    exact h3 (by rw [←hu]; simp [hm])
  ·cases h
def mv (w s:List UInt8):List UInt8:=match Aqe w s with | some x=>x.1 | none=>[]
def mr (w s:List UInt8):List UInt8:=match Aqe w s with | some x=>x.2 | none=>s
def mb (w s:List UInt8):Bool:=(Aqe w s).isNone
theorem Pj {w s:List UInt8} (h:mb w s=false):s=w++32::(mv w s++10::mr w s)∧10∉mv w s:=by
 unfold mb at h
 unfold mv mr
 cases hn:Aqe w s with
 | none=>rw [hn] at h; cases h
 | some x=>exact ABc hn
theorem LY {w v r:List UInt8} (hw:10∉w) (hv:10∉v):mb w (w++32::(v++10::r))=false∧mv w (w++32::(v++10::r))=v∧mr w (w++32::(v++10::r))=r:=by
 unfold mb mv mr
 rw [BjY hw hv]
 exact ⟨rfl,rfl,rfl⟩
theorem V6 (w s:List UInt8):(mv w s).length≤s.length∧(mr w s).length≤s.length:=by
 cases h:mb w s with
 | false =>
  have:=congrArg List.length (Pj h).1
  simp at this
  omega
 | true =>
  unfold mb at h
  unfold mv mr
  cases hn:Aqe w s with
  | none=>simp
  | some x=>rw [hn] at h; cases h
def MB:List UInt8:=[111,98,106,101,99,116]
def AbW:List UInt8:=[116,121,112,101]
def AyJ:List UInt8:=[116,97,103]
def LD:List UInt8:=[116,97,103,103,101,114]
def AAM (x k n p m:List UInt8):List UInt8:=MB++32::(x++10::(AbW++32::(k++10::(AyJ++32::(n++10::(LD++32::(p++10::(10::m))))))))
def tr1 (s:List UInt8):=mr MB s
def tr2 (s:List UInt8):=mr AbW (tr1 s)
def tr3 (s:List UInt8):=mr AyJ (tr2 s)
def tr4 (s:List UInt8):=mr LD (tr3 s)
def tv1 (s:List UInt8):=mv MB s
def tv2 (s:List UInt8):=mv AbW (tr1 s)
def tv3 (s:List UInt8):=mv AyJ (tr2 s)
def tv4 (s:List UInt8):=mv LD (tr3 s)
def ADv (s:List UInt8):Bool:=mb MB s || mb AbW (tr1 s) || mb AyJ (tr2 s) || mb LD (tr3 s)
theorem BpA {s m:List UInt8} (h:ADv s=false) (hm:tr4 s=10::m):s=AAM (tv1 s) (tv2 s) (tv3 s) (tv4 s) m:=by
 simp only [ADv,Bool.or_eq_false_iff] at h
 obtain ⟨⟨⟨h1,h2⟩,h3⟩,h4⟩:=h
 unfold AAM
 rw [←hm]
 have e4:=(Pj h4).1
 have e3:=(Pj h3).1
 have e2:=(Pj h2).1
 have e1:=(Pj h1).1
 unfold tr4 tv4
 rw [←e4]
 unfold tr3 tv3
 rw [←e3]
 unfold tr2 tv2
 rw [←e2]
 exact e1
theorem Bj8 {x k n p m:List UInt8} (hx:10∉x) (hk:10∉k) (hn:10∉n) (hp:10∉p):ADv (AAM x k n p m)=false∧tv1 (AAM x k n p m)=x∧tv2 (AAM x k n p m)=k∧tv3 (AAM x k n p m)=n∧tv4 (AAM x k n p m)=p∧tr4 (AAM x k n p m)=10::m:=by
 obtain ⟨a1,b1,c1⟩:=LY (w:=MB) (v:=x) (r:=AbW++32::(k++10::(AyJ++32::(n++10::(LD++32::(p++10::(10::m))))))) (by decide) hx
 obtain ⟨a2,b2,c2⟩:=LY (w:=AbW) (v:=k) (r:=AyJ++32::(n++10::(LD++32::(p++10::(10::m))))) (by decide) hk
 obtain ⟨a3,b3,c3⟩:=LY (w:=AyJ) (v:=n) (r:=LD++32::(p++10::(10::m))) (by decide) hn
 obtain ⟨a4,b4,c4⟩:=LY (w:=LD) (v:=p) (r:=10::m) (by decide) hp
 unfold ADv tv4 tv3 tv2 tv1 tr4 tr3 tr2 tr1 AAM
 rw [c1,c2,c3,c4,a1,a2,a3,a4,b1,b2,b3,b4]
 exact ⟨rfl,rfl,rfl,rfl,rfl,rfl⟩
end
section
open Go.RowKit
variable [Cc]
def letters:List UInt8:=[97,98,99,100,101,102,103,104,105,106,107,108,109,110,111,112,113,114,115,116,117,118,119,120,121,122,65,66,67,68,69,70,71,72,73,74,75,76,77,78,79,80,81,82,83,84,85,86,87,88,89,90,48,49,50,51,52,53,54,55,56,57,46,95,45,47]
def Agf (c:UInt8):Bool:=(97≤c.toNat && c.toNat≤122) || (65≤c.toNat && c.toNat≤90) || (48≤c.toNat && c.toNat≤57) || c == 46 || c == 95 || c == 45 || c == 47
theorem ACd:∀ n:Nat,n<256→letters.contains (UInt8.ofNat n)=Agf (UInt8.ofNat n):=by decide +kernel
theorem AvA (c:UInt8):letters.contains c=Agf c:=by
 have:=ACd c.toNat c.toNat_lt
 rwa [UInt8.ofNat_toNat] at this
def Wx (s:List UInt8):Bool:=decide (0<s.length∧s.length≤60) && s.all Agf
def Wq (s:List UInt8):Bool:=decide (s.length≤2000∧0∉s)
theorem Bi6 {q:UInt8→Bool}:∀ {l:List UInt8},(∀ x∈l.dropWhile q,q x=true)→∀ x∈l,q x=true
 | [],_,x,hx=>by cases hx
 | b::l,h,x,hx=>by
  cases hq:q b with
  | true =>
   rw [List.dropWhile_cons_of_pos hq] at h
   rcases List.mem_cons.1 hx with rfl | hx
   ·exact hq
   ·exact Bi6 h x hx
  | false =>
   rw [List.dropWhile_cons_of_neg (by simp [hq])] at h
   exact h x hx
theorem Blb {s cs:List UInt8}:Lib.trimS s cs=[]↔∀ c∈s,cs.contains c=true:=by
 unfold Lib.trimS Lib.trimLeftS Lib.trimRightS
 constructor
 ·intro h
  have h1:∀ x∈(s.reverse.dropWhile (cs.contains ·)).reverse,cs.contains x=true:=Bi6 (q:=(cs.contains ·)) (by rw [h]; intro x hx; cases hx)
  have h2:∀ x∈s.reverse,cs.contains x=true:=Bi6 (q:=(cs.contains ·)) fun x hx=>h1 x (by simpa using hx)
  exact fun c hc=>h2 c (by simpa using hc)
 ·intro h
  have h1:s.reverse.dropWhile (cs.contains ·)=[]:=by
   have:∀ {l:List UInt8},(∀ x∈l,cs.contains x=true)→l.dropWhile (cs.contains ·)=[]:=fun {l}=>by
    induction l with
    | nil=>intro _; rfl
    | cons b l ih =>
     intro hl
     rw [List.dropWhile_cons_of_pos (hl b (by simp))]
     exact ih fun x hx=>hl x (by simp [hx])
   exact this fun x hx=>h x (by simpa using hx)
  rw [h1]; rfl
theorem Axh {s:List UInt8}:Wx s=true↔0<s.length∧s.length≤60∧Lib.trimS s letters=[]:=by
 unfold Wx
 rw [Bool.and_eq_true,decide_eq_true_eq,List.all_eq_true,Blb]
 constructor
 ·rintro ⟨⟨h1,h2⟩,h3⟩; exact ⟨h1,h2,fun c hc=>by rw [AvA]; exact h3 c hc⟩
 ·rintro ⟨h1,h2,h3⟩; exact ⟨⟨h1,h2⟩,fun c hc=>by rw [←AvA]; exact h3 c hc⟩
theorem BlS {k:Nat} (h:k<10):(10:UInt8)≠UInt8.ofNat (48+k):=fun e=>by
 have:=congrArg UInt8.toNat e
 rw [UInt8.toNat_ofNat'] at this
 simp at this
 omega
theorem Ago {p:Per} (h:EW p):10∉I8 p:=by
 obtain ⟨h1,h2,_,_,h5,h6⟩:=h
 unfold I8 LH
 intro hm
 simp only [List.mem_append,List.mem_cons,List.not_mem_nil,or_false] at hm
 rcases hm with hm | (hm | hm) | hm | (hm | hm) | hm | hm | hm | hm
 ·exact (h1.2.1 _ hm).2.2.1 rfl
 ·cases hm
 ·cases hm
 ·exact (h2.2.1 _ hm).2.2.1 rfl
 ·cases hm
 ·cases hm
 ·have:=BiZ _ _ hm; simp at this
 ·cases hm
 ·unfold Aqw at hm; split at hm<;>cases hm
 ·unfold AmS at hm
  simp only [List.mem_cons,List.not_mem_nil,or_false] at hm
  rcases hm with hm | hm | hm | hm<;>exact absurd hm (BlS (by omega))
end
section
variable [Cc]
set_option maxRecDepth 100000
def ArI:ByteArray:=str [97,98,99,100,101,102,103,104,105,106,107,108,109,110,111,112,113,114,115,116,117,118,119,120,121,122,65,66,67,68,69,70,71,72,73,74,75,76,77,78,79,80,81,82,83,84,85,86,87,88,89,90,48,49,50,51,52,53,54,55,56,57,46,95,45,47]
def AfZ:AP := .seq (.ops [mv_ 3 0,po_ 4 (.lenS (.t 3)),po_ 5 (.bin 3 .leq (.t 4) (ci_ 60)),mv_ 6 5,⟨some 7,.p (.mov (.t 0)),some ⟨6,true⟩⟩,⟨some 8,.s (.call 90 [.t 7,.c (.string (str [60,62,10,0]))]),some ⟨6,true⟩⟩,⟨some 9,.p (.un .not (.t 8)),some ⟨6,true⟩⟩,po_ 10 (.pick (.t 6) (.t 9) (.c (.bool false))),mv_ 11 10,⟨some 12,.p (.mov (.t 0)),some ⟨11,true⟩⟩,⟨some 13,.s (.call 59 [.t 12,.c (.string (str [32]))]),some ⟨11,true⟩⟩,⟨some 14,.p (.mov (.t 0)),some ⟨11,true⟩⟩,⟨some 15,.p (.bin 9 .eql (.t 13) (.t 14)),some ⟨11,true⟩⟩,po_ 16 (.pick (.t 11) (.t 15) (.c (.bool false))),mv_ 2 16] [2])
 (.ret)
def An0:AP := .seq (.ops [po_ 2 (.mov (.c (.bool false)))] [0])
 AfZ
def AnO:List VR:=[.tmp 2]
theorem Awv:Tryz.f56.body.bind (trC Tryz.prog Tryz.f56.ntmps)=some (er An0):=by kernel_rfl
theorem Awm:trR Tryz.prog Tryz.f56.results.toList=some AnO:=by kernel_rfl
def AoH:=Ac AfZ.eq_1
def At1:=Ac An0.eq_1
theorem At7 {K:TV→Prop} {e:Env} {H:List Ob}:res AnO e H K=res [.tmp 2] e H K:=Ap rfl
def Uh:=(aI_ (aI_ @AoH @At1) @At7)
def Avt:=ES 17 Tryz.func56 Awv Awm rfl
def PH:AP := .seq (.draw 10 [po_ 52 (.fieldA 0 0 (.t 1)),po_ 53 (.load false 1 (.t 52)),po_ 54 (.bin 9 .add (.t 53) (.c (.string (str [32,60])))),po_ 55 (.fieldA 1 1 (.t 1)),po_ 56 (.load false 1 (.t 55)),po_ 57 (.bin 9 .add (.t 54) (.t 56)),po_ 58 (.bin 9 .add (.t 57) (.c (.string (str [62,32])))),po_ 59 (.fieldA 2 2 (.t 1)),po_ 60 (.load false 1 (.t 59)),so_ 61 (.call 58 [.t 60,.c (.int .i64 ((10:Nat):Int))]),po_ 62 (.bin 9 .add (.t 58) (.t 61)),po_ 63 (.bin 9 .add (.t 62) (.c (.string (str [32])))),mv_ 64 4,po_ 65 (.bin 9 .add (.t 63) (.t 64)),mv_ 66 6,po_ 67 (.bin 9 .add (.t 65) (.t 66)),mv_ 2 67,po_ 3 (.mov (.c (.bool true)))] [2,3])
 (.ret)
def PL:AP := .seq (.ops [mv_ 43 5,po_ 44 (.bin 3 .quo (.t 43) (ci_ 60)),po_ 45 (.bin 3 .mul (.t 44) (ci_ 100)),po_ 46 (.bin 3 .add (ci_ 10000) (.t 45)),mv_ 47 5,po_ 48 (.bin 3 .rem (.t 47) (ci_ 60)),po_ 49 (.bin 3 .add (.t 46) (.t 48)),so_ 50 (.call 57 [.t 49]),po_ 51 (.slS (.t 50) (some (ci_ 1)) none),mv_ 6 51] [1,4,6])
 PH
def PE:AP := .seq (.seq (.ops [mv_ 39 5,po_ 40 (.bin 3 .lss (.t 39) (ci_ 0))] [1,4,5,40])
 (.cond (.t 40)
 (.ops [mv_ 41 5,po_ 42 (.un .neg (.t 41)),po_ 4 (.mov (.c (.string (str [45])))),mv_ 5 42] [1,4,5])
 (.skip)))
 PL
def Qh:AP := .seq (.draw 2 [po_ 37 (.fieldA 3 3 (.t 1)),po_ 38 (.load false 1 (.t 37)),po_ 4 (.mov (.c (.string (str [43])))),mv_ 5 38] [1,4,5])
 PE
def Pv:AP := .seq (.seq (.ops [po_ 7 (.fieldA 0 0 (.t 1)),po_ 8 (.load false 1 (.t 7)),so_ 9 (.call 56 [.t 8]),po_ 10 (.un .not (.t 9)),mv_ 11 10,⟨some 12,.p (.fieldA 1 1 (.t 1)),some ⟨11,false⟩⟩,⟨some 13,.p (.load false 1 (.t 12)),some ⟨11,false⟩⟩,⟨some 14,.s (.call 56 [.t 13]),some ⟨11,false⟩⟩,⟨some 15,.p (.un .not (.t 14)),some ⟨11,false⟩⟩,po_ 16 (.pick (.t 11) (.c (.bool true)) (.t 15)),mv_ 17 16,⟨some 18,.p (.fieldA 2 2 (.t 1)),some ⟨17,false⟩⟩,⟨some 19,.p (.load false 1 (.t 18)),some ⟨17,false⟩⟩,⟨some 20,.p (.bin 2 .lss (.t 19) (ci_ 0)),some ⟨17,false⟩⟩,po_ 21 (.pick (.t 17) (.c (.bool true)) (.t 20)),mv_ 22 21,⟨some 23,.p (.fieldA 2 2 (.t 1)),some ⟨22,false⟩⟩,⟨some 24,.p (.load false 1 (.t 23)),some ⟨22,false⟩⟩,⟨some 25,.p (.bin 2 .gtr (.t 24) (ci_ 1099511627776)),some ⟨22,false⟩⟩,po_ 26 (.pick (.t 22) (.c (.bool true)) (.t 25)),mv_ 27 26,⟨some 28,.p (.fieldA 3 3 (.t 1)),some ⟨27,false⟩⟩,⟨some 29,.p (.load false 1 (.t 28)),some ⟨27,false⟩⟩,⟨some 30,.p (.bin 3 .lss (.t 29) (.c (.int .i64 (-840)))),some ⟨27,false⟩⟩,po_ 31 (.pick (.t 27) (.c (.bool true)) (.t 30)),mv_ 32 31,⟨some 33,.p (.fieldA 3 3 (.t 1)),some ⟨32,false⟩⟩,⟨some 34,.p (.load false 1 (.t 33)),some ⟨32,false⟩⟩,⟨some 35,.p (.bin 3 .gtr (.t 34) (ci_ 840)),some ⟨32,false⟩⟩,po_ 36 (.pick (.t 32) (.c (.bool true)) (.t 35))] [1,36])
 (.cond (.t 36)
 (.seq (.ops [po_ 2 (.mov (.c (.string (str [])))),po_ 3 (.mov (.c (.bool false)))] [2,3])
  (.ret))
 (.skip)))
 Qh
def Xi:AP := .seq (.ops [so_ 1 (.box (.t 0)),po_ 2 (.mov (.c (.string (str [])))),po_ 3 (.mov (.c (.bool false)))] [1])
 Pv
def Xe:List VR:=[.tmp 2,.tmp 3]
theorem Al8:Tryz.f26.body.bind (trC Tryz.prog Tryz.f26.ntmps)=some (er Xi):=by kernel_rfl
theorem AmA:trR Tryz.prog Tryz.f26.results.toList=some Xe:=by kernel_rfl
def Oj:=Ac PH.eq_1
def NP:=Ac PL.eq_1
def Og:=Ac PE.eq_1
def Oh:=Ac Qh.eq_1
def Dn:=Ac Pv.eq_1
def Eg:=Ac Xi.eq_1
theorem Dw {K:TV→Prop} {e:Env} {H:List Ob}:res Xe e H K=res [.tmp 2,.tmp 3] e H K:=Ap rfl
def Alz:=ES 68 Tryz.func26 Al8 AmA rfl
def RN:AP := .seq (.draw 11 [po_ 91 (.load true 4 (.t 16)),mv_ 92 15,po_ 93 (.eqN 1 (.t 92) (.c .nilIface) false),mv_ 94 93,⟨some 95,.p (.mov (.t 18)),some ⟨94,true⟩⟩,po_ 96 (.pick (.t 94) (.t 95) (.c (.bool false))),mv_ 97 96,⟨some 98,.p (.mov (.t 17)),some ⟨97,true⟩⟩,⟨some 99,.p (.mov (.t 0)),some ⟨97,true⟩⟩,⟨some 100,.p (.bin 9 .eql (.t 98) (.t 99)),some ⟨97,true⟩⟩,po_ 101 (.pick (.t 97) (.t 100) (.c (.bool false))),⟨none,.s (.store 4 (.t 2) (.t 91)),none⟩,mv_ 3 101] [2,3])
 (.ret)
def QU:AP := .seq (.ops [po_ 87 (.load true 4 (.t 16)),so_ 88 (.call 26 [.t 87]),mv_ 86 88,po_ 89 (.ext 0 (.t 86)),po_ 90 (.ext 1 (.t 86)),mv_ 17 89,mv_ 18 90] [0,2,15,16,17,18])
 RN
def QT:AP := .seq (.seq (.ops [mv_ 79 10,po_ 80 (.idxS (.t 79) (ci_ 0)),po_ 81 (.bin 5 .eql (.t 80) (.c (.int .u8 ((45:Nat):Int))))] [0,2,15,16,81])
 (.cond (.t 81)
 (.ops [po_ 82 (.fieldA 3 3 (.t 16)),po_ 83 (.load false 1 (.t 82)),po_ 84 (.un .neg (.t 83)),po_ 85 (.fieldA 3 3 (.t 16)),⟨none,.s (.store 1 (.t 85) (.t 84)),none⟩] [0,2,15,16])
 (.skip)))
 QU
def Ro:AP := .seq (.ops [mv_ 68 4,mv_ 69 7,mv_ 70 12,mv_ 71 14,po_ 72 (.bin 163 .quo (.t 71) (.c (.int .u64 ((100:Nat):Int)))),po_ 73 (.bin 163 .mul (.t 72) (.c (.int .u64 ((60:Nat):Int)))),mv_ 74 14,po_ 75 (.bin 163 .rem (.t 74) (.c (.int .u64 ((100:Nat):Int)))),po_ 76 (.bin 163 .add (.t 73) (.t 75)),po_ 77 (.conv .i64 (.t 76)),⟨some 78,.p (.build [.val (.string (str [])),.val (.string (str [])),.val (.int .i64 ((0:Nat):Int)),.val (.int .i64 ((0:Nat):Int))] [1,1,1,1] [⟨0,.t 68⟩,⟨1,.t 69⟩,⟨2,.t 70⟩,⟨3,.t 77⟩]),none⟩,so_ 16 (.alloc (.agg [.val (.string (str [])),.val (.string (str [])),.val (.int .i64 ((0:Nat):Int)),.val (.int .i64 ((0:Nat):Int))])),⟨none,.s (.store 4 (.t 16) (.t 78)),none⟩] [0,2,10,15,16])
 QT
def Ru:AP := .seq (.ops [mv_ 63 10,po_ 64 (.slS (.t 63) (some (ci_ 1)) none),so_ 65 (.call 89 [.t 64,.c (.int .i64 ((10:Nat):Int)),.c (.int .i64 ((20:Nat):Int))]),mv_ 62 65,po_ 66 (.ext 0 (.t 62)),po_ 67 (.ext 1 (.t 62)),mv_ 14 66,mv_ 15 67] [0,2,4,7,10,12,14,15])
 Ro
def RV:AP := .seq (.seq (.ops [mv_ 42 6,po_ 43 (.un .not (.t 42)),mv_ 44 43,⟨some 45,.p (.mov (.t 8)),some ⟨44,false⟩⟩,⟨some 46,.p (.un .not (.t 45)),some ⟨44,false⟩⟩,po_ 47 (.pick (.t 44) (.c (.bool true)) (.t 46)),mv_ 48 47,⟨some 49,.p (.mov (.t 11)),some ⟨48,false⟩⟩,⟨some 50,.p (.un .not (.t 49)),some ⟨48,false⟩⟩,po_ 51 (.pick (.t 48) (.c (.bool true)) (.t 50)),mv_ 52 51,⟨some 53,.p (.mov (.t 13)),some ⟨52,false⟩⟩,⟨some 54,.p (.un .not (.t 53)),some ⟨52,false⟩⟩,po_ 55 (.pick (.t 52) (.c (.bool true)) (.t 54)),mv_ 56 55,⟨some 57,.p (.mov (.t 10)),some ⟨56,false⟩⟩,⟨some 58,.p (.lenS (.t 57)),some ⟨56,false⟩⟩,⟨some 59,.p (.bin 3 .neq (.t 58) (ci_ 5)),some ⟨56,false⟩⟩,po_ 60 (.pick (.t 56) (.c (.bool true)) (.t 59))] [0,2,4,7,10,12,60])
 (.cond (.t 60)
 (.seq (.ops [po_ 61 (.build [.val (.string (str [])),.val (.string (str [])),.val (.int .i64 ((0:Nat):Int)),.val (.int .i64 ((0:Nat):Int))] [1,1,1,1] []),⟨none,.s (.store 4 (.t 2) (.t 61)),none⟩,po_ 3 (.mov (.c (.bool false)))] [2,3])
  (.ret))
 (.skip)))
 Ru
def RU:AP := .seq (.ops [mv_ 38 9,so_ 39 (.call 137 [.t 38]),mv_ 37 39,po_ 40 (.ext 0 (.t 37)),po_ 41 (.ext 1 (.t 37)),mv_ 12 40,mv_ 13 41] [0,2,4,6,7,8,10,11,12,13])
 RV
def RF:AP := .seq (.ops [mv_ 32 5,so_ 33 (.call 109 [.t 32,.c (.string (str [32]))]),mv_ 31 33,po_ 34 (.ext 0 (.t 31)),po_ 35 (.ext 1 (.t 31)),po_ 36 (.ext 2 (.t 31)),mv_ 9 34,mv_ 10 35,mv_ 11 36] [0,2,4,6,7,8,9,10,11])
 RU
def SS:AP := .seq (.ops [mv_ 26 5,so_ 27 (.call 109 [.t 26,.c (.string (str [62,32]))]),mv_ 25 27,po_ 28 (.ext 0 (.t 25)),po_ 29 (.ext 1 (.t 25)),po_ 30 (.ext 2 (.t 25)),mv_ 7 28,mv_ 5 29,mv_ 8 30] [0,2,4,5,6,7,8])
 RF
def Qi:AP := .seq (.ops [mv_ 20 0,so_ 21 (.call 109 [.t 20,.c (.string (str [32,60]))]),mv_ 19 21,po_ 22 (.ext 0 (.t 19)),po_ 23 (.ext 1 (.t 19)),po_ 24 (.ext 2 (.t 19)),mv_ 4 22,mv_ 5 23,mv_ 6 24] [0,2,4,5,6])
 SS
def Yq:AP := .seq (.ops [so_ 2 (.alloc (.agg [.val (.string (str [])),.val (.string (str [])),.val (.int .i64 ((0:Nat):Int)),.val (.int .i64 ((0:Nat):Int))])),po_ 3 (.mov (.c (.bool false)))] [0,2])
 Qi
def ZW:List VR:=[.cell 2 true 4,.tmp 3]
theorem Aoq:Tryz.f106.body.bind (trC Tryz.prog Tryz.f106.ntmps)=some (er Yq):=by kernel_rfl
theorem Aop:trR Tryz.prog Tryz.f106.results.toList=some ZW:=by kernel_rfl
def CY:=Ac RN.eq_1
def OQ:=Ac QU.eq_1
def Ae9:=Ac QT.eq_1
def Aen:=Ac Ro.eq_1
def AcN:=Ac Ru.eq_1
def KW:=Ac RV.eq_1
def AfS:=Ac RU.eq_1
def Adw:=Ac RF.eq_1
def Adk:=Ac SS.eq_1
def AbM:=Ac Qi.eq_1
def AlD:=Ac Yq.eq_1
theorem BV {K:TV→Prop} {e:Env} {H:List Ob}:res ZW e H K=res [.cell 2 true 4,.tmp 3] e H K:=Ap rfl
def Amh:=ES 102 Tryz.func106 Aoq Aop rfl
def AaN:AP := .seq (.ops [po_ 2 (.mov (.c (.bool false)))] [0])
 (.seq (.ops [mv_ 3 0,po_ 4 (.lenS (.t 3)),po_ 5 (.bin 3 .leq (.t 4) (ci_ 2000)),mv_ 6 5,⟨some 7,.p (.mov (.t 0)),some ⟨6,true⟩⟩,⟨some 8,.s (.call 60 [.t 7,.c (.string (str [0]))]),some ⟨6,true⟩⟩,⟨some 9,.p (.un .not (.t 8)),some ⟨6,true⟩⟩,po_ 10 (.pick (.t 6) (.t 9) (.c (.bool false))),mv_ 2 10] [2])
 (.ret))
def Abl:List VR:=[.tmp 2]
theorem ArO:Tryz.f28.body.bind (trC Tryz.prog Tryz.f28.ntmps)=some (er AaN):=by kernel_rfl
theorem Aq3:trR Tryz.prog Tryz.f28.results.toList=some Abl:=by kernel_rfl
def AmH:=Ac AaN.eq_1
theorem AmU {K:TV→Prop} {e:Env} {H:List Ob}:res Abl e H K=res [.tmp 2] e H K:=Ap rfl
def Qy:=(aI_ @AmH @AmU)
def Apo:=ES 11 Tryz.func28 ArO Aq3 rfl
def QH:AP := .seq (.seq (.ops [mv_ 27 8,po_ 28 (.un .not (.t 27)),mv_ 29 28,⟨some 30,.p (.mov (.t 10)),some ⟨29,false⟩⟩,⟨some 31,.p (.un .not (.t 30)),some ⟨29,false⟩⟩,po_ 32 (.pick (.t 29) (.c (.bool true)) (.t 31))] [0,7,9,32])
 (.cond (.t 32)
 (.seq (.ops [po_ 4 (.mov (.c (.string (str [])))),po_ 5 (.mov (.c (.bool false)))] [4,5])
  (.ret))
 (.skip)))
 (.seq (.ops [mv_ 33 0,mv_ 34 7,po_ 35 (.nilc (.t 33)),po_ 36 (.fieldA 0 0 (.t 35)),⟨none,.s (.store 1 (.t 36) (.t 34)),none⟩] [9])
 (.seq (.ops [mv_ 37 9,mv_ 4 37,po_ 5 (.mov (.c (.bool true)))] [4,5])
 (.ret)))
def Qb:AP := .seq (.ops [mv_ 21 6,mv_ 22 1,po_ 23 (.bin 9 .add (.t 22) (.c (.string (str [32])))),so_ 24 (.call 107 [.t 21,.t 23]),mv_ 20 24,po_ 25 (.ext 0 (.t 20)),po_ 26 (.ext 1 (.t 20)),mv_ 9 25,mv_ 10 26] [0,7,8,9,10])
 QH
def O7:AP := .seq (.ops [mv_ 12 0,po_ 13 (.nilc (.t 12)),po_ 14 (.fieldA 0 0 (.t 13)),po_ 15 (.load false 1 (.t 14)),so_ 16 (.call 109 [.t 15,.c (.string (str [10]))]),mv_ 11 16,po_ 17 (.ext 0 (.t 11)),po_ 18 (.ext 1 (.t 11)),po_ 19 (.ext 2 (.t 11)),mv_ 6 17,mv_ 7 18,mv_ 8 19] [0,1,6,7,8])
 Qb
def XE:AP := .seq (.ops [po_ 4 (.mov (.c (.string (str [])))),po_ 5 (.mov (.c (.bool false)))] [0,1])
 O7
def Xf:List VR:=[.tmp 4,.tmp 5]
theorem Al5:Tryz.f79.body.bind (trC Tryz.prog Tryz.f79.ntmps)=some (er XE):=by kernel_rfl
theorem Amv:trR Tryz.prog Tryz.f79.results.toList=some Xf:=by kernel_rfl
def JE:=Ac QH.eq_1
def NQ:=Ac Qb.eq_1
def Ab8:=Ac O7.eq_1
def AiT:=Ac XE.eq_1
theorem L8 {K:TV→Prop} {e:Env} {H:List Ob}:res Xf e H K=res [.tmp 4,.tmp 5] e H K:=Ap rfl
def Akn:=ES 38 Tryz.func79 Al5 Amv rfl
def QG:AP := .seq (.ops [mv_ 13 0,mv_ 14 0,po_ 15 (.nilc (.t 14)),po_ 16 (.fieldA 1 1 (.t 15)),po_ 17 (.load false 1 (.t 16)),mv_ 18 17,⟨some 19,.p (.mov (.t 6)),some ⟨18,false⟩⟩,⟨some 20,.p (.un .not (.t 19)),some ⟨18,false⟩⟩,po_ 21 (.pick (.t 18) (.c (.bool true)) (.t 20)),po_ 22 (.nilc (.t 13)),po_ 23 (.fieldA 1 1 (.t 22)),⟨none,.s (.store 1 (.t 23) (.t 21)),none⟩] [5])
 (.seq (.ops [mv_ 24 5,mv_ 4 24] [4])
 (.ret))
def QB:AP := .seq (.ops [mv_ 8 0,mv_ 9 1,so_ 10 (.call 79 [.t 8,.t 9]),mv_ 7 10,po_ 11 (.ext 0 (.t 7)),po_ 12 (.ext 1 (.t 7)),mv_ 5 11,mv_ 6 12] [0,5,6])
 QG
def XB:AP := .seq (.ops [po_ 4 (.mov (.c (.string (str []))))] [0,1])
 QB
def Xg:List VR:=[.tmp 4]
theorem Al3:Tryz.f72.body.bind (trC Tryz.prog Tryz.f72.ntmps)=some (er XB):=by kernel_rfl
theorem AmL:trR Tryz.prog Tryz.f72.results.toList=some Xg:=by kernel_rfl
def Gv:=Ac QG.eq_1
def Ab2:=Ac QB.eq_1
def AiQ:=Ac XB.eq_1
theorem I5 {K:TV→Prop} {e:Env} {H:List Ob}:res Xg e H K=res [.tmp 4] e H K:=Ap rfl
def Aly:=ES 25 Tryz.func72 Al3 AmL rfl
def UZ:AP := .seq (.ops [mv_ 12 0,mv_ 13 0,po_ 14 (.nilc (.t 13)),po_ 15 (.fieldA 1 1 (.t 14)),po_ 16 (.load false 1 (.t 15)),mv_ 17 16,⟨some 18,.p (.mov (.t 6)),some ⟨17,false⟩⟩,⟨some 19,.p (.eqN 1 (.t 18) (.c .nilIface) true),some ⟨17,false⟩⟩,po_ 20 (.pick (.t 17) (.c (.bool true)) (.t 19)),po_ 21 (.nilc (.t 12)),po_ 22 (.fieldA 1 1 (.t 21)),⟨none,.s (.store 1 (.t 22) (.t 20)),none⟩] [4,5])
 (.seq (.ops [po_ 23 (.load true 20 (.t 5)),⟨none,.s (.store 20 (.t 4) (.t 23)),none⟩] [4])
 (.ret))
def VV:AP := .seq (.ops [mv_ 8 1,so_ 9 (.call 105 [.t 8]),mv_ 7 9,po_ 10 (.ext 0 (.t 7)),po_ 11 (.ext 1 (.t 7)),so_ 5 (.alloc (.arr 20 1 [.val (.int .u8 ((0:Nat):Int)),.val (.int .u8 ((0:Nat):Int)),.val (.int .u8 ((0:Nat):Int)),.val (.int .u8 ((0:Nat):Int)),.val (.int .u8 ((0:Nat):Int)),.val (.int .u8 ((0:Nat):Int)),.val (.int .u8 ((0:Nat):Int)),.val (.int .u8 ((0:Nat):Int)),.val (.int .u8 ((0:Nat):Int)),.val (.int .u8 ((0:Nat):Int)),.val (.int .u8 ((0:Nat):Int)),.val (.int .u8 ((0:Nat):Int)),.val (.int .u8 ((0:Nat):Int)),.val (.int .u8 ((0:Nat):Int)),.val (.int .u8 ((0:Nat):Int)),.val (.int .u8 ((0:Nat):Int)),.val (.int .u8 ((0:Nat):Int)),.val (.int .u8 ((0:Nat):Int)),.val (.int .u8 ((0:Nat):Int)),.val (.int .u8 ((0:Nat):Int))])),⟨none,.s (.store 20 (.t 5) (.t 10)),none⟩,mv_ 6 11] [0,4,5,6])
 UZ
def AaZ:AP := .seq (.ops [so_ 4 (.alloc (.arr 20 1 [.val (.int .u8 ((0:Nat):Int)),.val (.int .u8 ((0:Nat):Int)),.val (.int .u8 ((0:Nat):Int)),.val (.int .u8 ((0:Nat):Int)),.val (.int .u8 ((0:Nat):Int)),.val (.int .u8 ((0:Nat):Int)),.val (.int .u8 ((0:Nat):Int)),.val (.int .u8 ((0:Nat):Int)),.val (.int .u8 ((0:Nat):Int)),.val (.int .u8 ((0:Nat):Int)),.val (.int .u8 ((0:Nat):Int)),.val (.int .u8 ((0:Nat):Int)),.val (.int .u8 ((0:Nat):Int)),.val (.int .u8 ((0:Nat):Int)),.val (.int .u8 ((0:Nat):Int)),.val (.int .u8 ((0:Nat):Int)),.val (.int .u8 ((0:Nat):Int)),.val (.int .u8 ((0:Nat):Int)),.val (.int .u8 ((0:Nat):Int)),.val (.int .u8 ((0:Nat):Int))]))] [0,1,4])
 VV
def Aax:List VR:=[.cell 4 true 20]
theorem AqI:Tryz.f71.body.bind (trC Tryz.prog Tryz.f71.ntmps)=some (er AaZ):=by kernel_rfl
theorem Aqx:trR Tryz.prog Tryz.f71.results.toList=some Aax:=by kernel_rfl
def AgU:=Ac UZ.eq_1
def AgC:=Ac VV.eq_1
def AmB:=Ac AaZ.eq_1
theorem AmW {K:TV→Prop} {e:Env} {H:List Ob}:res Aax e H K=res [.cell 4 true 20] e H K:=Ap rfl
def ApJ:=ES 24 Tryz.func71 AqI Aqx rfl
def NJ:AP := .seq (.ops [mv_ 14 0,mv_ 15 0,po_ 16 (.nilc (.t 15)),po_ 17 (.fieldA 1 1 (.t 16)),po_ 18 (.load false 1 (.t 17)),mv_ 19 18,⟨some 20,.p (.mov (.t 6)),some ⟨19,false⟩⟩,⟨some 21,.p (.un .not (.t 20)),some ⟨19,false⟩⟩,po_ 22 (.pick (.t 19) (.c (.bool true)) (.t 21)),po_ 23 (.nilc (.t 14)),po_ 24 (.fieldA 1 1 (.t 23)),⟨none,.s (.store 1 (.t 24) (.t 22)),none⟩] [4,5])
 (.seq (.ops [po_ 25 (.load true 4 (.t 5)),⟨none,.s (.store 4 (.t 4) (.t 25)),none⟩] [4])
 (.ret))
def NW:AP := .seq (.ops [mv_ 8 0,mv_ 9 1,so_ 10 (.call 72 [.t 8,.t 9]),so_ 11 (.call 106 [.t 10]),mv_ 7 11,po_ 12 (.ext 0 (.t 7)),po_ 13 (.ext 1 (.t 7)),so_ 5 (.alloc (.agg [.val (.string (str [])),.val (.string (str [])),.val (.int .i64 ((0:Nat):Int)),.val (.int .i64 ((0:Nat):Int))])),⟨none,.s (.store 4 (.t 5) (.t 12)),none⟩,mv_ 6 13] [0,4,5,6])
 NJ
def QS:AP := .seq (.ops [so_ 4 (.alloc (.agg [.val (.string (str [])),.val (.string (str [])),.val (.int .i64 ((0:Nat):Int)),.val (.int .i64 ((0:Nat):Int))]))] [0,1,4])
 NW
def Rk:List VR:=[.cell 4 true 4]
theorem AiY:Tryz.f74.body.bind (trC Tryz.prog Tryz.f74.ntmps)=some (er QS):=by kernel_rfl
theorem AiU:trR Tryz.prog Tryz.f74.results.toList=some Rk:=by kernel_rfl
def YY:=Ac NJ.eq_1
def Y6:=Ac NW.eq_1
def AfH:=Ac QS.eq_1
theorem Ads {K:TV→Prop} {e:Env} {H:List Ob}:res Rk e H K=res [.cell 4 true 4] e H K:=Ap rfl
def Af7:=ES 26 Tryz.func74 AiY AiU rfl
def Np:AP := .seq (.ops [mv_ 13 0,mv_ 14 0,po_ 15 (.nilc (.t 14)),po_ 16 (.fieldA 1 1 (.t 15)),po_ 17 (.load false 1 (.t 16)),mv_ 18 17,⟨some 19,.p (.mov (.t 4)),some ⟨18,false⟩⟩,⟨some 20,.p (.un .not (.t 19)),some ⟨18,false⟩⟩,po_ 21 (.pick (.t 18) (.c (.bool true)) (.t 20)),mv_ 22 21,⟨some 23,.p (.mov (.t 3)),some ⟨22,false⟩⟩,⟨some 24,.s (.call 28 [.t 23]),some ⟨22,false⟩⟩,⟨some 25,.p (.un .not (.t 24)),some ⟨22,false⟩⟩,po_ 26 (.pick (.t 22) (.c (.bool true)) (.t 25)),po_ 27 (.nilc (.t 13)),po_ 28 (.fieldA 1 1 (.t 27)),⟨none,.s (.store 1 (.t 28) (.t 26)),none⟩] [3])
 (.seq (.ops [mv_ 29 3,mv_ 2 29] [2])
 (.ret))
def Nq:AP := .seq (.ops [mv_ 6 0,po_ 7 (.nilc (.t 6)),po_ 8 (.fieldA 0 0 (.t 7)),po_ 9 (.load false 1 (.t 8)),so_ 10 (.call 107 [.t 9,.c (.string (str [10]))]),mv_ 5 10,po_ 11 (.ext 0 (.t 5)),po_ 12 (.ext 1 (.t 5)),mv_ 3 11,mv_ 4 12] [0,3,4])
 Np
def QD:AP := .seq (.ops [po_ 2 (.mov (.c (.string (str []))))] [0])
 Nq
def Qv:List VR:=[.tmp 2]
theorem AgY:Tryz.f75.body.bind (trC Tryz.prog Tryz.f75.ntmps)=some (er QD):=by kernel_rfl
theorem Agy:trR Tryz.prog Tryz.f75.results.toList=some Qv:=by kernel_rfl
def MC:=Ac Np.eq_1
def XT:=Ac Nq.eq_1
def Ach:=Ac QD.eq_1
theorem NK {K:TV→Prop} {e:Env} {H:List Ob}:res Qv e H K=res [.tmp 2] e H K:=Ap rfl
def AfL:=ES 30 Tryz.func75 AgY Agy rfl
def Adh:AP := .seq (.ops [mv_ 3 0,po_ 4 (.lenS (.t 3)),po_ 5 (.bin 3 .gtr (.t 4) (ci_ 0)),mv_ 6 5,⟨some 7,.p (.mov (.t 0)),some ⟨6,true⟩⟩,⟨some 8,.p (.lenS (.t 7)),some ⟨6,true⟩⟩,⟨some 9,.p (.bin 3 .leq (.t 8) (ci_ 60)),some ⟨6,true⟩⟩,po_ 10 (.pick (.t 6) (.t 9) (.c (.bool false))),mv_ 11 10,⟨some 12,.p (.mov (.t 0)),some ⟨11,true⟩⟩,⟨some 13,.s (.call 59 [.t 12,.c (.string ArI)]),some ⟨11,true⟩⟩,⟨some 14,.p (.bin 9 .eql (.t 13) (.c (.string (str [])))),some ⟨11,true⟩⟩,po_ 15 (.pick (.t 11) (.t 14) (.c (.bool false))),mv_ 2 15] [2])
 (.ret)
def AnH:AP := .seq (.ops [po_ 2 (.mov (.c (.bool false)))] [0])
 Adh
def AnF:List VR:=[.tmp 2]
theorem Awn:Tryz.f27.body.bind (trC Tryz.prog Tryz.f27.ntmps)=some (er AnH):=by kernel_rfl
theorem AwD:trR Tryz.prog Tryz.f27.results.toList=some AnF:=by kernel_rfl
def ApF:=Ac Adh.eq_1
def AtY:=Ac AnH.eq_1
theorem AtV {K:TV→Prop} {e:Env} {H:List Ob}:res AnF e H K=res [.tmp 2] e H K:=Ap rfl
def Ug:=(aI_ (aI_ @ApF @AtY) @AtV)
def Avf:=ES 16 Tryz.func27 Awn AwD rfl
def Y0:AP := .seq (.seq (.ops [mv_ 34 4,po_ 35 (.nilc (.t 34)),po_ 36 (.fieldA 1 1 (.t 35)),po_ 37 (.load false 1 (.t 36)),mv_ 38 37,⟨some 39,.p (.mov (.t 7)),some ⟨38,false⟩⟩,⟨some 40,.p (.un .not (.t 39)),some ⟨38,false⟩⟩,po_ 41 (.pick (.t 38) (.c (.bool true)) (.t 40)),mv_ 42 41,⟨some 43,.p (.fieldA 2 21 (.t 5)),some ⟨42,false⟩⟩,⟨some 44,.p (.load false 1 (.t 43)),some ⟨42,false⟩⟩,⟨some 45,.s (.call 27 [.t 44]),some ⟨42,false⟩⟩,⟨some 46,.p (.un .not (.t 45)),some ⟨42,false⟩⟩,po_ 47 (.pick (.t 42) (.c (.bool true)) (.t 46))] [2,5,47])
 (.cond (.t 47)
 (.seq (.ops [po_ 48 (.build [.arr 20 1 [.val (.int .u8 ((0:Nat):Int)),.val (.int .u8 ((0:Nat):Int)),.val (.int .u8 ((0:Nat):Int)),.val (.int .u8 ((0:Nat):Int)),.val (.int .u8 ((0:Nat):Int)),.val (.int .u8 ((0:Nat):Int)),.val (.int .u8 ((0:Nat):Int)),.val (.int .u8 ((0:Nat):Int)),.val (.int .u8 ((0:Nat):Int)),.val (.int .u8 ((0:Nat):Int)),.val (.int .u8 ((0:Nat):Int)),.val (.int .u8 ((0:Nat):Int)),.val (.int .u8 ((0:Nat):Int)),.val (.int .u8 ((0:Nat):Int)),.val (.int .u8 ((0:Nat):Int)),.val (.int .u8 ((0:Nat):Int)),.val (.int .u8 ((0:Nat):Int)),.val (.int .u8 ((0:Nat):Int)),.val (.int .u8 ((0:Nat):Int)),.val (.int .u8 ((0:Nat):Int))],.val (.int .i64 ((0:Nat):Int)),.val (.string (str [])),.agg [.val (.string (str [])),.val (.string (str [])),.val (.int .i64 ((0:Nat):Int)),.val (.int .i64 ((0:Nat):Int))],.val (.string (str []))] [20,1,1,4,1] []),po_ 49 (.iface 34 (ci_ 23)),⟨none,.s (.store 27 (.t 2) (.t 48)),none⟩,mv_ 3 49] [2,3])
  (.ret))
 (.skip)))
 (.seq (.ops [po_ 50 (.load true 27 (.t 5)),⟨none,.s (.store 27 (.t 2) (.t 50)),none⟩,po_ 3 (.mov (.c .nilIface))] [2,3])
 (.ret))
def Z7:AP := .seq (.ops [mv_ 31 4,so_ 32 (.call 75 [.t 31]),po_ 33 (.fieldA 4 26 (.t 5)),⟨none,.s (.store 1 (.t 33) (.t 32)),none⟩] [2,4,5,7])
 Y0
def Y5:AP := .seq (.ops [mv_ 28 4,so_ 29 (.call 74 [.t 28,.c (.string (str [116,97,103,103,101,114]))]),po_ 30 (.fieldA 3 22 (.t 5)),⟨none,.s (.store 4 (.t 30) (.t 29)),none⟩] [2,4,5,7])
 Z7
def Zo:AP := .seq (.ops [mv_ 23 6,mv_ 24 4,so_ 25 (.call 72 [.t 24,.c (.string (str [116,97,103]))]),po_ 26 (.fieldA 1 20 (.t 5)),⟨none,.s (.store 1 (.t 26) (.t 23)),none⟩,po_ 27 (.fieldA 2 21 (.t 5)),⟨none,.s (.store 1 (.t 27) (.t 25)),none⟩] [2,4,5,7])
 Y5
def ZX:AP := .seq (.ops [mv_ 18 4,so_ 19 (.call 72 [.t 18,.c (.string (str [116,121,112,101]))]),so_ 20 (.call 73 [.t 19]),mv_ 17 20,po_ 21 (.ext 0 (.t 17)),po_ 22 (.ext 1 (.t 17)),mv_ 6 21,mv_ 7 22] [2,4,5,6,7])
 Zo
def Zg:AP := .seq (.ops [mv_ 12 4,mv_ 13 4,so_ 14 (.call 72 [.t 13,.c (.string (str [111,98,106,101,99,116]))]),so_ 15 (.call 71 [.t 12,.t 14]),⟨some 16,.p (.build [.arr 20 1 [.val (.int .u8 ((0:Nat):Int)),.val (.int .u8 ((0:Nat):Int)),.val (.int .u8 ((0:Nat):Int)),.val (.int .u8 ((0:Nat):Int)),.val (.int .u8 ((0:Nat):Int)),.val (.int .u8 ((0:Nat):Int)),.val (.int .u8 ((0:Nat):Int)),.val (.int .u8 ((0:Nat):Int)),.val (.int .u8 ((0:Nat):Int)),.val (.int .u8 ((0:Nat):Int)),.val (.int .u8 ((0:Nat):Int)),.val (.int .u8 ((0:Nat):Int)),.val (.int .u8 ((0:Nat):Int)),.val (.int .u8 ((0:Nat):Int)),.val (.int .u8 ((0:Nat):Int)),.val (.int .u8 ((0:Nat):Int)),.val (.int .u8 ((0:Nat):Int)),.val (.int .u8 ((0:Nat):Int)),.val (.int .u8 ((0:Nat):Int)),.val (.int .u8 ((0:Nat):Int))],.val (.int .i64 ((0:Nat):Int)),.val (.string (str [])),.agg [.val (.string (str [])),.val (.string (str [])),.val (.int .i64 ((0:Nat):Int)),.val (.int .i64 ((0:Nat):Int))],.val (.string (str []))] [20,1,1,4,1] [⟨0,.t 15⟩]),none⟩,so_ 5 (.alloc (.agg [.arr 20 1 [.val (.int .u8 ((0:Nat):Int)),.val (.int .u8 ((0:Nat):Int)),.val (.int .u8 ((0:Nat):Int)),.val (.int .u8 ((0:Nat):Int)),.val (.int .u8 ((0:Nat):Int)),.val (.int .u8 ((0:Nat):Int)),.val (.int .u8 ((0:Nat):Int)),.val (.int .u8 ((0:Nat):Int)),.val (.int .u8 ((0:Nat):Int)),.val (.int .u8 ((0:Nat):Int)),.val (.int .u8 ((0:Nat):Int)),.val (.int .u8 ((0:Nat):Int)),.val (.int .u8 ((0:Nat):Int)),.val (.int .u8 ((0:Nat):Int)),.val (.int .u8 ((0:Nat):Int)),.val (.int .u8 ((0:Nat):Int)),.val (.int .u8 ((0:Nat):Int)),.val (.int .u8 ((0:Nat):Int)),.val (.int .u8 ((0:Nat):Int)),.val (.int .u8 ((0:Nat):Int))],.val (.int .i64 ((0:Nat):Int)),.val (.string (str [])),.agg [.val (.string (str [])),.val (.string (str [])),.val (.int .i64 ((0:Nat):Int)),.val (.int .i64 ((0:Nat):Int))],.val (.string (str []))])),⟨none,.s (.store 27 (.t 5) (.t 16)),none⟩] [2,4,5])
 ZX
def Zu:AP := .seq (.ops [mv_ 8 0,po_ 9 (.b2s (.t 8)),⟨some 10,.p (.build [.val (.string (str [])),.val (.bool false)] [1,1] [⟨0,.t 9⟩]),none⟩,so_ 11 (.box (.t 10)),mv_ 4 11] [2,4])
 Zg
def AhP:AP := .seq (.ops [so_ 2 (.alloc (.agg [.arr 20 1 [.val (.int .u8 ((0:Nat):Int)),.val (.int .u8 ((0:Nat):Int)),.val (.int .u8 ((0:Nat):Int)),.val (.int .u8 ((0:Nat):Int)),.val (.int .u8 ((0:Nat):Int)),.val (.int .u8 ((0:Nat):Int)),.val (.int .u8 ((0:Nat):Int)),.val (.int .u8 ((0:Nat):Int)),.val (.int .u8 ((0:Nat):Int)),.val (.int .u8 ((0:Nat):Int)),.val (.int .u8 ((0:Nat):Int)),.val (.int .u8 ((0:Nat):Int)),.val (.int .u8 ((0:Nat):Int)),.val (.int .u8 ((0:Nat):Int)),.val (.int .u8 ((0:Nat):Int)),.val (.int .u8 ((0:Nat):Int)),.val (.int .u8 ((0:Nat):Int)),.val (.int .u8 ((0:Nat):Int)),.val (.int .u8 ((0:Nat):Int)),.val (.int .u8 ((0:Nat):Int))],.val (.int .i64 ((0:Nat):Int)),.val (.string (str [])),.agg [.val (.string (str [])),.val (.string (str [])),.val (.int .i64 ((0:Nat):Int)),.val (.int .i64 ((0:Nat):Int))],.val (.string (str []))])),po_ 3 (.mov (.c .nilIface))] [0,2])
 Zu
def AiK:List VR:=[.cell 2 true 27,.tmp 3]
theorem Auc:Tryz.f38.body.bind (trC Tryz.prog Tryz.f38.ntmps)=some (er AhP):=by kernel_rfl
theorem Auv:trR Tryz.prog Tryz.f38.results.toList=some AiK:=by kernel_rfl
def MZ:=Ac Y0.eq_1
def Akj:=Ac Z7.eq_1
def Aks:=Ac Y5.eq_1
def Ali:=Ac Zo.eq_1
def AlH:=Ac ZX.eq_1
def Alc:=Ac Zg.eq_1
def AjX:=Ac Zu.eq_1
def ArW:=Ac AhP.eq_1
theorem MJ {K:TV→Prop} {e:Env} {H:List Ob}:res AiK e H K=res [.cell 2 true 27,.tmp 3] e H K:=Ap rfl
def Asl:=ES 51 Tryz.func38 Auc Auv rfl
def Alf:AP := .seq (.block 1 (.seq (.ops [mv_ 13 0,mv_ 14 3,po_ 15 (.idxS (.t 13) (.t 14)),po_ 16 (.bin 5 .eql (.t 15) (.c (.int .u8 ((60:Nat):Int)))),mv_ 17 16,⟨some 18,.p (.mov (.t 0)),some ⟨17,false⟩⟩,⟨some 19,.p (.mov (.t 3)),some ⟨17,false⟩⟩,⟨some 20,.p (.idxS (.t 18) (.t 19)),some ⟨17,false⟩⟩,⟨some 21,.p (.bin 5 .eql (.t 20) (.c (.int .u8 ((62:Nat):Int)))),some ⟨17,false⟩⟩,po_ 22 (.pick (.t 17) (.c (.bool true)) (.t 21)),mv_ 23 22,⟨some 24,.p (.mov (.t 0)),some ⟨23,false⟩⟩,⟨some 25,.p (.mov (.t 3)),some ⟨23,false⟩⟩,⟨some 26,.p (.idxS (.t 24) (.t 25)),some ⟨23,false⟩⟩,⟨some 27,.p (.bin 5 .eql (.t 26) (.c (.int .u8 ((10:Nat):Int)))),some ⟨23,false⟩⟩,po_ 28 (.pick (.t 23) (.c (.bool true)) (.t 27)),mv_ 29 28,⟨some 30,.p (.mov (.t 0)),some ⟨29,false⟩⟩,⟨some 31,.p (.mov (.t 3)),some ⟨29,false⟩⟩,⟨some 32,.p (.idxS (.t 30) (.t 31)),some ⟨29,false⟩⟩,⟨some 33,.p (.bin 5 .eql (.t 32) (.c (.int .u8 ((0:Nat):Int)))),some ⟨29,false⟩⟩,po_ 34 (.pick (.t 29) (.c (.bool true)) (.t 33))] [0,3,34])
 (.cond (.t 34)
 (.seq (.ops [po_ 2 (.mov (.c (.bool false)))] [2])
  (.ret))
 (.skip))))
 (.ops [mv_ 11 3,po_ 12 (.bin 3 .add (.t 11) (ci_ 1)),mv_ 3 12] [0,3])
def Aku:AP := .seq (.seq (.ops [mv_ 7 3,mv_ 8 0,po_ 9 (.lenS (.t 8)),po_ 10 (.bin 3 .lss (.t 7) (.t 9))] [0,3,10])
 (.cond (.t 10)
 (.skip)
 (.exit 0)))
 Alf
def Akv:AP := .block 0 (.loop [0,3] Aku)
def AjV:AP := .seq (.ops [mv_ 35 0,po_ 36 (.lenS (.t 35)),po_ 37 (.bin 3 .eql (.t 36) (ci_ 0)),mv_ 38 37,⟨some 39,.p (.mov (.t 0)),some ⟨38,false⟩⟩,⟨some 40,.p (.idxS (.t 39) (ci_ 0)),some ⟨38,false⟩⟩,⟨some 41,.p (.bin 5 .neq (.t 40) (.c (.int .u8 ((32:Nat):Int)))),some ⟨38,false⟩⟩,⟨some 42,.p (.mov (.t 41)),some ⟨38,false⟩⟩,⟨some 43,.p (.mov (.t 0)),some ⟨42,true⟩⟩,⟨some 44,.p (.mov (.t 0)),some ⟨42,true⟩⟩,⟨some 45,.p (.lenS (.t 44)),some ⟨42,true⟩⟩,⟨some 46,.p (.bin 3 .sub (.t 45) (ci_ 1)),some ⟨42,true⟩⟩,⟨some 47,.p (.idxS (.t 43) (.t 46)),some ⟨42,true⟩⟩,⟨some 48,.p (.bin 5 .neq (.t 47) (.c (.int .u8 ((32:Nat):Int)))),some ⟨42,true⟩⟩,⟨some 49,.p (.pick (.t 42) (.t 48) (.c (.bool false))),some ⟨38,false⟩⟩,po_ 50 (.pick (.t 38) (.c (.bool true)) (.t 49)),mv_ 2 50] [2])
 (.ret)
def Alh:AP := .seq (.seq (.ops [po_ 3 (.mov (ci_ 0))] [0,3])
 Akv)
 AjV
def Alj:AP := .seq (.seq (.ops [mv_ 4 0,po_ 5 (.lenS (.t 4)),po_ 6 (.bin 3 .gtr (.t 5) (ci_ 60))] [0,6])
 (.cond (.t 6)
 (.seq (.ops [po_ 2 (.mov (.c (.bool false)))] [2])
  (.ret))
 (.skip)))
 Alh
def Atx:AP := .seq (.ops [po_ 2 (.mov (.c (.bool false)))] [0])
 Alj
def Ath:List VR:=[.tmp 2]
theorem AzJ:Tryz.f68.body.bind (trC Tryz.prog Tryz.f68.ntmps)=some (er Atx):=by kernel_rfl
theorem AAf:trR Tryz.prog Tryz.f68.results.toList=some Ath:=by kernel_rfl
def KT:=Ac Alf.eq_1
def Ey:=Ac Aku.eq_1
def As5:=Ac Akv.eq_1
def Nl:=Ac AjV.eq_1
def As6:=Ac Alh.eq_1
def AeW:=Ac Alj.eq_1
def AnG:=Ac Atx.eq_1
theorem Gy {K:TV→Prop} {e:Env} {H:List Ob}:res Ath e H K=res [.tmp 2] e H K:=Ap rfl
def AxQ:=ES 51 Tryz.func68 AzJ AAf rfl
def We:AP := .seq (.draw 10 [po_ 71 (.fieldA 0 0 (.t 1)),po_ 72 (.load false 1 (.t 71)),po_ 73 (.bin 9 .add (.t 72) (.c (.string (str [32,60])))),po_ 74 (.fieldA 1 1 (.t 1)),po_ 75 (.load false 1 (.t 74)),po_ 76 (.bin 9 .add (.t 73) (.t 75)),po_ 77 (.bin 9 .add (.t 76) (.c (.string (str [62,32])))),po_ 78 (.fieldA 2 2 (.t 1)),po_ 79 (.load false 1 (.t 78)),so_ 80 (.call 69 [.t 79]),po_ 81 (.bin 9 .add (.t 77) (.t 80)),po_ 82 (.bin 9 .add (.t 81) (.c (.string (str [32])))),mv_ 83 6,po_ 84 (.bin 9 .add (.t 82) (.t 83)),mv_ 85 10,po_ 86 (.bin 9 .add (.t 84) (.t 85)),mv_ 2 86,po_ 3 (.mov (.c (.bool true)))] [2,3])
 (.ret)
def Vy:AP := .seq (.ops [mv_ 53 8,po_ 54 (.bin 3 .quo (.t 53) (ci_ 10)),po_ 55 (.bin 3 .add (ci_ 48) (.t 54)),po_ 56 (.conv .u8 (.t 55)),mv_ 57 8,po_ 58 (.bin 3 .rem (.t 57) (ci_ 10)),po_ 59 (.bin 3 .add (ci_ 48) (.t 58)),po_ 60 (.conv .u8 (.t 59)),mv_ 61 9,po_ 62 (.bin 3 .quo (.t 61) (ci_ 10)),po_ 63 (.bin 3 .add (ci_ 48) (.t 62)),po_ 64 (.conv .u8 (.t 63)),mv_ 65 9,po_ 66 (.bin 3 .rem (.t 65) (ci_ 10)),po_ 67 (.bin 3 .add (ci_ 48) (.t 66)),po_ 68 (.conv .u8 (.t 67)),⟨some 69,.s (.bslice 1 4 (.val (.int .u8 ((0:Nat):Int))) [⟨0,.t 56⟩,⟨1,.t 60⟩,⟨2,.t 64⟩,⟨3,.t 68⟩]),none⟩,po_ 70 (.b2s (.t 69)),mv_ 10 70] [1,6,10])
 We
def Uz:AP := .seq (.ops [mv_ 51 7,po_ 52 (.bin 3 .rem (.t 51) (ci_ 60)),mv_ 9 52] [1,6,8,9])
 Vy
def UU:AP := .seq (.ops [mv_ 49 7,po_ 50 (.bin 3 .quo (.t 49) (ci_ 60)),mv_ 8 50] [1,6,7,8])
 Uz
def U4:AP := .seq (.seq (.ops [mv_ 45 7,po_ 46 (.bin 3 .lss (.t 45) (ci_ 0))] [1,6,7,46])
 (.cond (.t 46)
 (.seq (.ops [po_ 6 (.mov (.c (.string (str [45]))))] [1,6,7])
  (.ops [mv_ 47 7,po_ 48 (.un .neg (.t 47)),mv_ 7 48] [1,6,7]))
 (.skip)))
 UU
def UK:AP := .seq (.ops [po_ 43 (.fieldA 3 3 (.t 1)),po_ 44 (.load false 1 (.t 43)),mv_ 7 44] [1,6,7])
 U4
def UV:AP := .seq (.ops [po_ 6 (.mov (.c (.string (str [43]))))] [1,6])
 UK
def VM:AP := .seq (.seq (.ops [mv_ 17 4,po_ 18 (.un .not (.t 17)),mv_ 19 18,⟨some 20,.p (.mov (.t 5)),some ⟨19,false⟩⟩,⟨some 21,.p (.un .not (.t 20)),some ⟨19,false⟩⟩,po_ 22 (.pick (.t 19) (.c (.bool true)) (.t 21)),mv_ 23 22,⟨some 24,.p (.fieldA 2 2 (.t 1)),some ⟨23,false⟩⟩,⟨some 25,.p (.load false 1 (.t 24)),some ⟨23,false⟩⟩,⟨some 26,.p (.bin 3 .lss (.t 25) (ci_ 0)),some ⟨23,false⟩⟩,po_ 27 (.pick (.t 23) (.c (.bool true)) (.t 26)),mv_ 28 27,⟨some 29,.p (.fieldA 2 2 (.t 1)),some ⟨28,false⟩⟩,⟨some 30,.p (.load false 1 (.t 29)),some ⟨28,false⟩⟩,⟨some 31,.p (.bin 3 .gtr (.t 30) (ci_ 1099511627776)),some ⟨28,false⟩⟩,po_ 32 (.pick (.t 28) (.c (.bool true)) (.t 31)),mv_ 33 32,⟨some 34,.p (.fieldA 3 3 (.t 1)),some ⟨33,false⟩⟩,⟨some 35,.p (.load false 1 (.t 34)),some ⟨33,false⟩⟩,⟨some 36,.p (.bin 3 .lss (.t 35) (.c (.int .i64 (-840)))),some ⟨33,false⟩⟩,po_ 37 (.pick (.t 33) (.c (.bool true)) (.t 36)),mv_ 38 37,⟨some 39,.p (.fieldA 3 3 (.t 1)),some ⟨38,false⟩⟩,⟨some 40,.p (.load false 1 (.t 39)),some ⟨38,false⟩⟩,⟨some 41,.p (.bin 3 .gtr (.t 40) (ci_ 840)),some ⟨38,false⟩⟩,po_ 42 (.pick (.t 38) (.c (.bool true)) (.t 41))] [1,42])
 (.cond (.t 42)
 (.seq (.ops [po_ 2 (.mov (.c (.string (str [])))),po_ 3 (.mov (.c (.bool false)))] [2,3])
  (.ret))
 (.skip)))
 UV
def Vt:AP := .seq (.ops [po_ 14 (.fieldA 1 1 (.t 1)),po_ 15 (.load false 1 (.t 14)),so_ 16 (.call 68 [.t 15]),mv_ 5 16] [1,4,5])
 VM
def Q4:AP := .seq (.ops [po_ 11 (.fieldA 0 0 (.t 1)),po_ 12 (.load false 1 (.t 11)),so_ 13 (.call 68 [.t 12]),mv_ 4 13] [1,4])
 Vt
def AbD:AP := .seq (.ops [so_ 1 (.box (.t 0)),po_ 2 (.mov (.c (.string (str [])))),po_ 3 (.mov (.c (.bool false)))] [1])
 Q4
def Abt:List VR:=[.tmp 2,.tmp 3]
theorem ArU:Tryz.f33.body.bind (trC Tryz.prog Tryz.f33.ntmps)=some (er AbD):=by kernel_rfl
theorem AqW:trR Tryz.prog Tryz.f33.results.toList=some Abt:=by kernel_rfl
def PN:=Ac We.eq_1
def O8:=Ac Vy.eq_1
def QA:=Ac Uz.eq_1
def PT:=Ac UU.eq_1
def P9:=Ac U4.eq_1
def Qz:=Ac UK.eq_1
def Pz:=Ac UV.eq_1
def C9:=Ac VM.eq_1
def D8:=Ac Vt.eq_1
def DK:=Ac Q4.eq_1
def EH:=Ac AbD.eq_1
theorem Ef {K:TV→Prop} {e:Env} {H:List Ob}:res Abt e H K=res [.tmp 2,.tmp 3] e H K:=Ap rfl
def Aof:=ES 87 Tryz.func33 ArU AqW rfl
def Aip:AP := .seq (.block 1 (.seq (.seq (.ops [mv_ 29 0,mv_ 30 4,po_ 31 (.idxS (.t 29) (.t 30)),po_ 32 (.bin 5 .lss (.t 31) (.c (.int .u8 ((48:Nat):Int)))),mv_ 33 32,⟨some 34,.p (.mov (.t 0)),some ⟨33,false⟩⟩,⟨some 35,.p (.mov (.t 4)),some ⟨33,false⟩⟩,⟨some 36,.p (.idxS (.t 34) (.t 35)),some ⟨33,false⟩⟩,⟨some 37,.p (.bin 5 .gtr (.t 36) (.c (.int .u8 ((57:Nat):Int)))),some ⟨33,false⟩⟩,po_ 38 (.pick (.t 33) (.c (.bool true)) (.t 37))] [0,3,4,38])
 (.cond (.t 38)
 (.seq (.ops [po_ 2 (.mov (.c (.int .i64 (-1))))] [2])
  (.ret))
 (.skip)))
 (.ops [mv_ 39 3,po_ 40 (.bin 3 .mul (.t 39) (ci_ 10)),mv_ 41 0,mv_ 42 4,po_ 43 (.idxS (.t 41) (.t 42)),po_ 44 (.bin 5 .sub (.t 43) (.c (.int .u8 ((48:Nat):Int)))),po_ 45 (.conv .i64 (.t 44)),po_ 46 (.bin 3 .add (.t 40) (.t 45)),mv_ 3 46] [0,3,4])))
 (.ops [mv_ 27 4,po_ 28 (.bin 3 .add (.t 27) (ci_ 1)),mv_ 4 28] [0,3,4])
def Aiq:AP := .seq (.seq (.ops [mv_ 23 4,mv_ 24 0,po_ 25 (.lenS (.t 24)),po_ 26 (.bin 3 .lss (.t 23) (.t 25))] [0,3,4,26])
 (.cond (.t 26)
 (.skip)
 (.exit 0)))
 Aip
def AhI:AP := .block 0 (.loop [0,3,4] Aiq)
def Aia:AP := .seq (.ops [mv_ 47 3,mv_ 2 47] [2])
 (.ret)
def Aiv:AP := .seq (.seq (.ops [po_ 4 (.mov (ci_ 0))] [0,3,4])
 AhI)
 Aia
def Ah1:AP := .seq (.ops [po_ 3 (.mov (ci_ 0))] [0,3])
 Aiv
def Ah4:AP := .seq (.seq (.ops [mv_ 5 0,po_ 6 (.lenS (.t 5)),po_ 7 (.bin 3 .lss (.t 6) (ci_ 1)),mv_ 8 7,⟨some 9,.p (.mov (.t 0)),some ⟨8,false⟩⟩,⟨some 10,.p (.lenS (.t 9)),some ⟨8,false⟩⟩,⟨some 11,.p (.bin 3 .gtr (.t 10) (ci_ 15)),some ⟨8,false⟩⟩,po_ 12 (.pick (.t 8) (.c (.bool true)) (.t 11)),mv_ 13 12,⟨some 14,.p (.mov (.t 0)),some ⟨13,false⟩⟩,⟨some 15,.p (.lenS (.t 14)),some ⟨13,false⟩⟩,⟨some 16,.p (.bin 3 .gtr (.t 15) (ci_ 1)),some ⟨13,false⟩⟩,⟨some 17,.p (.mov (.t 16)),some ⟨13,false⟩⟩,⟨some 18,.p (.mov (.t 0)),some ⟨17,true⟩⟩,⟨some 19,.p (.idxS (.t 18) (ci_ 0)),some ⟨17,true⟩⟩,⟨some 20,.p (.bin 5 .eql (.t 19) (.c (.int .u8 ((48:Nat):Int)))),some ⟨17,true⟩⟩,⟨some 21,.p (.pick (.t 17) (.t 20) (.c (.bool false))),some ⟨13,false⟩⟩,po_ 22 (.pick (.t 13) (.c (.bool true)) (.t 21))] [0,22])
 (.cond (.t 22)
 (.seq (.ops [po_ 2 (.mov (.c (.int .i64 (-1))))] [2])
  (.ret))
 (.skip)))
 Ah1
def Aq2:AP := .seq (.ops [po_ 2 (.mov (ci_ 0))] [0])
 Ah4
def ArB:List VR:=[.tmp 2]
theorem AxF:Tryz.f108.body.bind (trC Tryz.prog Tryz.f108.ntmps)=some (er Aq2):=by kernel_rfl
theorem Ayl:trR Tryz.prog Tryz.f108.results.toList=some ArB:=by kernel_rfl
def G5:=Ac Aip.eq_1
def EJ:=Ac Aiq.eq_1
def Aa1:=Ac AhI.eq_1
def Abp:=Ac Aia.eq_1
def Aa5:=Ac Aiv.eq_1
def AaE:=Ac Ah1.eq_1
def Js:=Ac Ah4.eq_1
def MN:=Ac Aq2.eq_1
theorem FY {K:TV→Prop} {e:Env} {H:List Ob}:res ArB e H K=res [.tmp 2] e H K:=Ap rfl
def AwV:=ES 48 Tryz.func108 AxF Ayl rfl
def WR:AP := .seq (.seq (.ops [mv_ 12 5,mv_ 13 0,po_ 14 (.lenS (.t 13)),po_ 15 (.bin 3 .lss (.t 12) (.t 14)),mv_ 16 15,⟨some 17,.p (.mov (.t 0)),some ⟨16,true⟩⟩,⟨some 18,.p (.mov (.t 5)),some ⟨16,true⟩⟩,⟨some 19,.p (.idxS (.t 17) (.t 18)),some ⟨16,true⟩⟩,⟨some 20,.p (.bin 5 .neq (.t 19) (.c (.int .u8 ((60:Nat):Int)))),some ⟨16,true⟩⟩,po_ 21 (.pick (.t 16) (.t 20) (.c (.bool false)))] [0,2,4,5,21])
 (.cond (.t 21)
 (.skip)
 (.exit 0)))
 (.block 1 (.ops [mv_ 22 5,po_ 23 (.bin 3 .add (.t 22) (ci_ 1)),mv_ 5 23] [0,2,4,5]))
def WV:AP := .seq (.seq (.ops [mv_ 25 6,mv_ 26 0,po_ 27 (.lenS (.t 26)),po_ 28 (.bin 3 .lss (.t 25) (.t 27)),mv_ 29 28,⟨some 30,.p (.mov (.t 0)),some ⟨29,true⟩⟩,⟨some 31,.p (.mov (.t 6)),some ⟨29,true⟩⟩,⟨some 32,.p (.idxS (.t 30) (.t 31)),some ⟨29,true⟩⟩,⟨some 33,.p (.bin 5 .neq (.t 32) (.c (.int .u8 ((62:Nat):Int)))),some ⟨29,true⟩⟩,po_ 34 (.pick (.t 29) (.t 33) (.c (.bool false)))] [0,2,4,5,6,34])
 (.cond (.t 34)
 (.skip)
 (.exit 2)))
 (.block 3 (.ops [mv_ 35 6,po_ 36 (.bin 3 .add (.t 35) (ci_ 1)),mv_ 6 36] [0,2,4,5,6]))
def WE:AP := .seq (.ops [po_ 110 (.load true 4 (.t 4)),so_ 111 (.call 33 [.t 110]),mv_ 109 111,po_ 112 (.ext 0 (.t 109)),po_ 113 (.ext 1 (.t 109)),mv_ 10 112,mv_ 11 113] [0,2,4,10,11])
 (.seq (.ops [po_ 114 (.load true 4 (.t 4)),mv_ 115 11,mv_ 116 115,⟨some 117,.p (.mov (.t 10)),some ⟨116,true⟩⟩,⟨some 118,.p (.mov (.t 0)),some ⟨116,true⟩⟩,⟨some 119,.p (.bin 9 .eql (.t 117) (.t 118)),some ⟨116,true⟩⟩,po_ 120 (.pick (.t 116) (.t 119) (.c (.bool false))),⟨none,.s (.store 4 (.t 2) (.t 114)),none⟩,mv_ 3 120] [2,3])
 (.ret))
def Xr:AP := .seq (.seq (.ops [mv_ 100 0,mv_ 101 7,po_ 102 (.bin 3 .sub (.t 101) (ci_ 5)),po_ 103 (.idxS (.t 100) (.t 102)),po_ 104 (.bin 5 .eql (.t 103) (.c (.int .u8 ((45:Nat):Int))))] [0,2,4,104])
 (.cond (.t 104)
 (.ops [po_ 105 (.fieldA 3 3 (.t 4)),po_ 106 (.load false 1 (.t 105)),po_ 107 (.un .neg (.t 106)),po_ 108 (.fieldA 3 3 (.t 4)),⟨none,.s (.store 1 (.t 108) (.t 107)),none⟩] [0,2,4])
 (.skip)))
 WE
def Xv:AP := .seq (.ops [mv_ 93 8,po_ 94 (.bin 3 .sub (.t 93) (ci_ 100)),po_ 95 (.bin 3 .mul (.t 94) (ci_ 60)),mv_ 96 9,po_ 97 (.bin 3 .add (.t 95) (.t 96)),po_ 98 (.bin 3 .sub (.t 97) (ci_ 100)),po_ 99 (.fieldA 3 3 (.t 4)),⟨none,.s (.store 1 (.t 99) (.t 98)),none⟩] [0,2,4,7])
 Xr
def XM:AP := .seq (.seq (.ops [mv_ 86 8,po_ 87 (.bin 3 .lss (.t 86) (ci_ 0)),mv_ 88 87,⟨some 89,.p (.mov (.t 9)),some ⟨88,false⟩⟩,⟨some 90,.p (.bin 3 .lss (.t 89) (ci_ 0)),some ⟨88,false⟩⟩,po_ 91 (.pick (.t 88) (.c (.bool true)) (.t 90))] [0,2,4,7,8,9,91])
 (.cond (.t 91)
 (.seq (.ops [po_ 92 (.load true 4 (.t 4)),⟨none,.s (.store 4 (.t 2) (.t 92)),none⟩,po_ 3 (.mov (.c (.bool false)))] [2,3])
  (.ret))
 (.skip)))
 Xv
def XL:AP := .seq (.ops [mv_ 80 0,mv_ 81 7,po_ 82 (.bin 3 .sub (.t 81) (ci_ 2)),po_ 83 (.slS (.t 80) (some (.t 82)) none),po_ 84 (.bin 9 .add (.c (.string (str [49]))) (.t 83)),so_ 85 (.call 108 [.t 84]),mv_ 9 85] [0,2,4,7,8,9])
 XM
def XN:AP := .seq (.ops [mv_ 72 0,mv_ 73 7,po_ 74 (.bin 3 .sub (.t 73) (ci_ 4)),mv_ 75 7,po_ 76 (.bin 3 .sub (.t 75) (ci_ 2)),po_ 77 (.slS (.t 72) (some (.t 74)) (some (.t 76))),po_ 78 (.bin 9 .add (.c (.string (str [49]))) (.t 77)),so_ 79 (.call 108 [.t 78]),mv_ 8 79] [0,2,4,7,8])
 XL
def Xp:AP := .seq (.ops [mv_ 64 0,mv_ 65 6,po_ 66 (.bin 3 .add (.t 65) (ci_ 2)),mv_ 67 7,po_ 68 (.bin 3 .sub (.t 67) (ci_ 6)),po_ 69 (.slS (.t 64) (some (.t 66)) (some (.t 68))),so_ 70 (.call 108 [.t 69]),po_ 71 (.fieldA 2 2 (.t 4)),⟨none,.s (.store 1 (.t 71) (.t 70)),none⟩] [0,2,4,7])
 XN
def VJ:AP := .seq (.ops [mv_ 58 0,mv_ 59 5,po_ 60 (.bin 3 .add (.t 59) (ci_ 1)),mv_ 61 6,po_ 62 (.slS (.t 58) (some (.t 60)) (some (.t 61))),po_ 63 (.fieldA 1 1 (.t 4)),⟨none,.s (.store 1 (.t 63) (.t 62)),none⟩] [0,2,4,6,7])
 Xp
def Wh:AP := .seq (.ops [mv_ 53 0,mv_ 54 5,po_ 55 (.bin 3 .sub (.t 54) (ci_ 1)),po_ 56 (.slS (.t 53) none (some (.t 55))),po_ 57 (.fieldA 0 0 (.t 4)),⟨none,.s (.store 1 (.t 57) (.t 56)),none⟩] [0,2,4,5,6,7])
 VJ
def UC:AP := .seq (.seq (.ops [mv_ 39 5,po_ 40 (.bin 3 .lss (.t 39) (ci_ 1)),mv_ 41 40,⟨some 42,.p (.mov (.t 6)),some ⟨41,false⟩⟩,⟨some 43,.p (.mov (.t 7)),some ⟨41,false⟩⟩,⟨some 44,.p (.bin 3 .geq (.t 42) (.t 43)),some ⟨41,false⟩⟩,po_ 45 (.pick (.t 41) (.c (.bool true)) (.t 44)),mv_ 46 45,⟨some 47,.p (.mov (.t 7)),some ⟨46,false⟩⟩,⟨some 48,.p (.mov (.t 6)),some ⟨46,false⟩⟩,⟨some 49,.p (.bin 3 .add (.t 48) (ci_ 9)),some ⟨46,false⟩⟩,⟨some 50,.p (.bin 3 .lss (.t 47) (.t 49)),some ⟨46,false⟩⟩,po_ 51 (.pick (.t 46) (.c (.bool true)) (.t 50))] [0,2,4,5,6,7,51])
 (.cond (.t 51)
 (.seq (.ops [po_ 52 (.load true 4 (.t 4)),⟨none,.s (.store 4 (.t 2) (.t 52)),none⟩,po_ 3 (.mov (.c (.bool false)))] [2,3])
  (.ret))
 (.skip)))
 Wh
def Na:AP := .seq (.ops [mv_ 37 0,po_ 38 (.lenS (.t 37)),mv_ 7 38] [0,2,4,5,6,7])
 UC
def Uy:AP := .seq (.block 2 (.loop [0,2,4,5,6] WV))
 Na
def MW:AP := .seq (.ops [mv_ 24 5,mv_ 6 24] [0,2,4,5,6])
 Uy
def Uu:AP := .seq (.block 0 (.loop [0,2,4,5] WR))
 MW
def Ve:AP := .seq (.ops [po_ 5 (.mov (ci_ 0))] [0,2,4,5])
 Uu
def Ur:AP := .seq (.ops [so_ 4 (.alloc (.agg [.val (.string (str [])),.val (.string (str [])),.val (.int .i64 ((0:Nat):Int)),.val (.int .i64 ((0:Nat):Int))]))] [0,2,4])
 Ve
def AdA:AP := .seq (.ops [so_ 2 (.alloc (.agg [.val (.string (str [])),.val (.string (str [])),.val (.int .i64 ((0:Nat):Int)),.val (.int .i64 ((0:Nat):Int))])),po_ 3 (.mov (.c (.bool false)))] [0,2])
 Ur
def Nh:List VR:=[.cell 2 true 4,.tmp 3]
theorem Asv:Tryz.f78.body.bind (trC Tryz.prog Tryz.f78.ntmps)=some (er AdA):=by kernel_rfl
theorem As9:trR Tryz.prog Tryz.f78.results.toList=some Nh:=by kernel_rfl
def L6:=Ac WR.eq_1
def L9:=Ac WV.eq_1
def Rt:=Ac WE.eq_1
def Rf:=Ac Xr.eq_1
def Ajr:=Ac Xv.eq_1
def Me:=Ac XM.eq_1
def Aji:=Ac XL.eq_1
def Ajp:=Ac XN.eq_1
def Ajo:=Ac Xp.eq_1
def Af4:=Ac VJ.eq_1
def Ahk:=Ac Wh.eq_1
def Ib:=Ac UC.eq_1
def H5:=Ac Na.eq_1
def AgB:=Ac Uy.eq_1
def Ag1:=Ac MW.eq_1
def Agp:=Ac Uu.eq_1
def AgA:=Ac Ve.eq_1
def Ahr:=Ac Ur.eq_1
def ApV:=Ac AdA.eq_1
theorem CU {K:TV→Prop} {e:Env} {H:List Ob}:res Nh e H K=res [.cell 2 true 4,.tmp 3] e H K:=Ap rfl
def AqD:=ES 121 Tryz.func78 Asv As9 rfl
def Aet:AP := .seq (.seq (.ops [mv_ 7 3,mv_ 8 0,po_ 9 (.lenS (.t 8)),po_ 10 (.bin 3 .lss (.t 7) (.t 9))] [0,3,10])
 (.cond (.t 10)
 (.skip)
 (.exit 0)))
 (.seq (.block 1 (.seq (.ops [mv_ 13 0,mv_ 14 3,po_ 15 (.idxS (.t 13) (.t 14)),po_ 16 (.bin 5 .eql (.t 15) (.c (.int .u8 ((0:Nat):Int))))] [0,3,16])
 (.cond (.t 16)
 (.seq (.ops [po_ 2 (.mov (.c (.bool false)))] [2])
  (.ret))
 (.skip))))
 (.ops [mv_ 11 3,po_ 12 (.bin 3 .add (.t 11) (ci_ 1)),mv_ 3 12] [0,3]))
def Ae3:AP := .seq (.ops [po_ 2 (.mov (.c (.bool true)))] [2])
 (.ret)
def AdL:AP := .seq (.seq (.ops [po_ 3 (.mov (ci_ 0))] [0,3])
 (.block 0 (.loop [0,3] Aet)))
 Ae3
def Afo:AP := .seq (.seq (.ops [mv_ 4 0,po_ 5 (.lenS (.t 4)),po_ 6 (.bin 3 .gtr (.t 5) (ci_ 2000))] [0,6])
 (.cond (.t 6)
 (.seq (.ops [po_ 2 (.mov (.c (.bool false)))] [2])
  (.ret))
 (.skip)))
 AdL
def AnR:AP := .seq (.ops [po_ 2 (.mov (.c (.bool false)))] [0])
 Afo
def AnJ:List VR:=[.tmp 2]
theorem AwU:Tryz.f34.body.bind (trC Tryz.prog Tryz.f34.ntmps)=some (er AnR):=by kernel_rfl
theorem AwS:trR Tryz.prog Tryz.f34.results.toList=some AnJ:=by kernel_rfl
def Apx:=Ac Aet.eq_1
def An5:=Ac Ae3.eq_1
def AoS:=Ac AdL.eq_1
def Apl:=Ac Afo.eq_1
def AtT:=Ac AnR.eq_1
theorem At6 {K:TV→Prop} {e:Env} {H:List Ob}:res AnJ e H K=res [.tmp 2] e H K:=Ap rfl
def NT:=(aI_ (aI_ (aI_ @Apx @An5) (aI_ @AoS @Apl)) (aI_ @AtT @At6))
def AvD:=ES 17 Tryz.func34 AwU AwS rfl
def AnN:AP := .seq (.seq (.ops [mv_ 26 8,mv_ 27 0,po_ 28 (.lenS (.t 27)),po_ 29 (.bin 3 .lss (.t 26) (.t 28)),mv_ 30 29,⟨some 31,.p (.mov (.t 0)),some ⟨30,true⟩⟩,⟨some 32,.p (.mov (.t 8)),some ⟨30,true⟩⟩,⟨some 33,.p (.idxS (.t 31) (.t 32)),some ⟨30,true⟩⟩,⟨some 34,.p (.bin 5 .neq (.t 33) (.c (.int .u8 ((10:Nat):Int)))),some ⟨30,true⟩⟩,po_ 35 (.pick (.t 30) (.t 34) (.c (.bool false)))] [0,7,8,35])
 (.cond (.t 35)
 (.skip)
 (.exit 0)))
 (.block 1 (.ops [mv_ 36 8,po_ 37 (.bin 3 .add (.t 36) (ci_ 1)),mv_ 8 37] [0,7,8]))
def Anw:AP := .seq (.seq (.ops [mv_ 38 8,mv_ 39 0,po_ 40 (.lenS (.t 39)),po_ 41 (.bin 3 .geq (.t 38) (.t 40))] [0,7,8,41])
 (.cond (.t 41)
 (.seq (.ops [mv_ 42 0,po_ 4 (.mov (.c (.string (str [])))),mv_ 5 42,po_ 6 (.mov (.c (.bool false)))] [4,5,6])
  (.ret))
 (.skip)))
 (.seq (.draw 5 [mv_ 43 0,mv_ 44 7,mv_ 45 8,po_ 46 (.slS (.t 43) (some (.t 44)) (some (.t 45))),mv_ 47 0,mv_ 48 8,po_ 49 (.bin 3 .add (.t 48) (ci_ 1)),po_ 50 (.slS (.t 47) (some (.t 49)) none),mv_ 4 46,mv_ 5 50,po_ 6 (.mov (.c (.bool true)))] [4,5,6])
 (.ret))
def Am1:AP := .seq (.block 0 (.loop [0,7,8] AnN))
 Anw
def AnK:AP := .seq (.ops [mv_ 25 7,mv_ 8 25] [0,7,8])
 Am1
def AnM:AP := .seq (.seq (.ops [mv_ 12 0,po_ 13 (.lenS (.t 12)),mv_ 14 7,po_ 15 (.bin 3 .lss (.t 13) (.t 14)),mv_ 16 15,⟨some 17,.p (.mov (.t 0)),some ⟨16,false⟩⟩,⟨some 18,.p (.mov (.t 7)),some ⟨16,false⟩⟩,⟨some 19,.p (.slS (.t 17) none (some (.t 18))),some ⟨16,false⟩⟩,⟨some 20,.p (.mov (.t 1)),some ⟨16,false⟩⟩,⟨some 21,.p (.bin 9 .add (.t 20) (.c (.string (str [32])))),some ⟨16,false⟩⟩,⟨some 22,.p (.bin 9 .neq (.t 19) (.t 21)),some ⟨16,false⟩⟩,po_ 23 (.pick (.t 16) (.c (.bool true)) (.t 22))] [0,7,23])
 (.cond (.t 23)
 (.seq (.ops [mv_ 24 0,po_ 4 (.mov (.c (.string (str [])))),mv_ 5 24,po_ 6 (.mov (.c (.bool false)))] [4,5,6])
  (.ret))
 (.skip)))
 AnK
def AnZ:AP := .seq (.ops [mv_ 9 1,po_ 10 (.lenS (.t 9)),po_ 11 (.bin 3 .add (.t 10) (ci_ 1)),mv_ 7 11] [0,1,7])
 AnM
def AuZ:AP := .seq (.ops [po_ 4 (.mov (.c (.string (str [])))),po_ 5 (.mov (.c (.string (str [])))),po_ 6 (.mov (.c (.bool false)))] [0,1])
 AnZ
def Au5:List VR:=[.tmp 4,.tmp 5,.tmp 6]
theorem ACh:Tryz.f76.body.bind (trC Tryz.prog Tryz.f76.ntmps)=some (er AuZ):=by kernel_rfl
theorem ABP:trR Tryz.prog Tryz.f76.results.toList=some Au5:=by kernel_rfl
def WA:=Ac AnN.eq_1
def AhQ:=Ac Anw.eq_1
def Aug:=Ac Am1.eq_1
def Auy:=Ac AnK.eq_1
def Wl:=Ac AnM.eq_1
def Wu:=Ac AnZ.eq_1
def Ahq:=Ac AuZ.eq_1
theorem X0 {K:TV→Prop} {e:Env} {H:List Ob}:res Au5 e H K=res [.tmp 4,.tmp 5,.tmp 6] e H K:=Ap rfl
def AAC:=ES 51 Tryz.func76 ACh ABP rfl
def AjJ:AP := .seq (.ops [mv_ 45 5,po_ 46 (.un .not (.t 45)),mv_ 47 46,⟨some 48,.p (.mov (.t 4)),some ⟨47,true⟩⟩,⟨some 49,.p (.bin 5 .neq (.t 48) (.c (.int .u8 ((46:Nat):Int)))),some ⟨47,true⟩⟩,po_ 50 (.pick (.t 47) (.t 49) (.c (.bool false))),mv_ 51 50,⟨some 52,.p (.mov (.t 4)),some ⟨51,true⟩⟩,⟨some 53,.p (.bin 5 .neq (.t 52) (.c (.int .u8 ((95:Nat):Int)))),some ⟨51,true⟩⟩,po_ 54 (.pick (.t 51) (.t 53) (.c (.bool false))),mv_ 55 54,⟨some 56,.p (.mov (.t 4)),some ⟨55,true⟩⟩,⟨some 57,.p (.bin 5 .neq (.t 56) (.c (.int .u8 ((45:Nat):Int)))),some ⟨55,true⟩⟩,po_ 58 (.pick (.t 55) (.t 57) (.c (.bool false))),mv_ 59 58,⟨some 60,.p (.mov (.t 4)),some ⟨59,true⟩⟩,⟨some 61,.p (.bin 5 .neq (.t 60) (.c (.int .u8 ((47:Nat):Int)))),some ⟨59,true⟩⟩,po_ 62 (.pick (.t 59) (.t 61) (.c (.bool false)))] [0,3,62])
 (.cond (.t 62)
 (.seq (.ops [po_ 2 (.mov (.c (.bool false)))] [2])
  (.ret))
 (.skip))
def AkD:AP := .seq (.ops [mv_ 23 4,po_ 24 (.bin 5 .geq (.t 23) (.c (.int .u8 ((97:Nat):Int)))),mv_ 25 24,⟨some 26,.p (.mov (.t 4)),some ⟨25,true⟩⟩,⟨some 27,.p (.bin 5 .leq (.t 26) (.c (.int .u8 ((122:Nat):Int)))),some ⟨25,true⟩⟩,po_ 28 (.pick (.t 25) (.t 27) (.c (.bool false))),mv_ 29 28,⟨some 30,.p (.mov (.t 4)),some ⟨29,false⟩⟩,⟨some 31,.p (.bin 5 .geq (.t 30) (.c (.int .u8 ((65:Nat):Int)))),some ⟨29,false⟩⟩,⟨some 32,.p (.mov (.t 31)),some ⟨29,false⟩⟩,⟨some 33,.p (.mov (.t 4)),some ⟨32,true⟩⟩,⟨some 34,.p (.bin 5 .leq (.t 33) (.c (.int .u8 ((90:Nat):Int)))),some ⟨32,true⟩⟩,⟨some 35,.p (.pick (.t 32) (.t 34) (.c (.bool false))),some ⟨29,false⟩⟩,po_ 36 (.pick (.t 29) (.c (.bool true)) (.t 35)),mv_ 37 36,⟨some 38,.p (.mov (.t 4)),some ⟨37,false⟩⟩,⟨some 39,.p (.bin 5 .geq (.t 38) (.c (.int .u8 ((48:Nat):Int)))),some ⟨37,false⟩⟩,⟨some 40,.p (.mov (.t 39)),some ⟨37,false⟩⟩,⟨some 41,.p (.mov (.t 4)),some ⟨40,true⟩⟩,⟨some 42,.p (.bin 5 .leq (.t 41) (.c (.int .u8 ((57:Nat):Int)))),some ⟨40,true⟩⟩,⟨some 43,.p (.pick (.t 40) (.t 42) (.c (.bool false))),some ⟨37,false⟩⟩,po_ 44 (.pick (.t 37) (.c (.bool true)) (.t 43)),mv_ 5 44] [0,3,4,5])
 AjJ
def AlB:AP := .seq (.block 1 (.seq (.ops [mv_ 20 0,mv_ 21 3,po_ 22 (.idxS (.t 20) (.t 21)),mv_ 4 22] [0,3,4])
 AkD))
 (.ops [mv_ 18 3,po_ 19 (.bin 3 .add (.t 18) (ci_ 1)),mv_ 3 19] [0,3])
def AkQ:AP := .seq (.seq (.ops [mv_ 14 3,mv_ 15 0,po_ 16 (.lenS (.t 15)),po_ 17 (.bin 3 .lss (.t 14) (.t 16))] [0,3,17])
 (.cond (.t 17)
 (.skip)
 (.exit 0)))
 AlB
def AkH:AP := .block 0 (.loop [0,3] AkQ)
def AkE:AP := .seq (.ops [po_ 2 (.mov (.c (.bool true)))] [2])
 (.ret)
def Aj6:AP := .seq (.seq (.ops [po_ 3 (.mov (ci_ 0))] [0,3])
 AkH)
 AkE
def AjQ:AP := .seq (.seq (.ops [mv_ 6 0,po_ 7 (.lenS (.t 6)),po_ 8 (.bin 3 .lss (.t 7) (ci_ 1)),mv_ 9 8,⟨some 10,.p (.mov (.t 0)),some ⟨9,false⟩⟩,⟨some 11,.p (.lenS (.t 10)),some ⟨9,false⟩⟩,⟨some 12,.p (.bin 3 .gtr (.t 11) (ci_ 60)),some ⟨9,false⟩⟩,po_ 13 (.pick (.t 9) (.c (.bool true)) (.t 12))] [0,13])
 (.cond (.t 13)
 (.seq (.ops [po_ 2 (.mov (.c (.bool false)))] [2])
  (.ret))
 (.skip)))
 Aj6
def Atv:AP := .seq (.ops [po_ 2 (.mov (.c (.bool false)))] [0])
 AjQ
def AtN:List VR:=[.tmp 2]
theorem AAR:Tryz.f32.body.bind (trC Tryz.prog Tryz.f32.ntmps)=some (er Atv):=by kernel_rfl
theorem AAm:trR Tryz.prog Tryz.f32.results.toList=some AtN:=by kernel_rfl
def DL:=Ac AjJ.eq_1
def DU:=Ac AkD.eq_1
def DN:=Ac AlB.eq_1
def CZ:=Ac AkQ.eq_1
def Ase:=Ac AkH.eq_1
def As1:=Ac AkE.eq_1
def Ata:=Ac Aj6.eq_1
def TI:=Ac AjQ.eq_1
def Aca:=Ac Atv.eq_1
theorem JF {K:TV→Prop} {e:Env} {H:List Ob}:res AtN e H K=res [.tmp 2] e H K:=Ap rfl
def AyA:=ES 63 Tryz.func32 AAR AAm rfl
def AaX:AP := .seq (.draw 19 [po_ 37 (.fieldA 0 0 (.t 1)),po_ 38 (.load true 20 (.t 37)),so_ 39 (.call 36 [.t 38]),po_ 40 (.bin 9 .add (.c (.string (str [111,98,106,101,99,116,32]))) (.t 39)),po_ 41 (.bin 9 .add (.t 40) (.c (.string (str [10,116,121,112,101,32])))),po_ 42 (.fieldA 1 20 (.t 1)),po_ 43 (.load false 1 (.t 42)),so_ 44 (.call 35 [.t 43]),po_ 45 (.bin 9 .add (.t 41) (.t 44)),po_ 46 (.bin 9 .add (.t 45) (.c (.string (str [10,116,97,103,32])))),po_ 47 (.fieldA 2 21 (.t 1)),po_ 48 (.load false 1 (.t 47)),po_ 49 (.bin 9 .add (.t 46) (.t 48)),po_ 50 (.bin 9 .add (.t 49) (.c (.string (str [10,116,97,103,103,101,114,32])))),mv_ 51 5,po_ 52 (.bin 9 .add (.t 50) (.t 51)),po_ 53 (.bin 9 .add (.t 52) (.c (.string (str [10,10])))),po_ 54 (.fieldA 4 26 (.t 1)),po_ 55 (.load false 1 (.t 54)),po_ 56 (.bin 9 .add (.t 53) (.t 55)),mv_ 8 56] [8])
 (.seq (.ops [mv_ 57 8,so_ 58 (.s2b (.t 57)),mv_ 2 58,po_ 3 (.mov (ci_ 0))] [2,3])
 (.ret))
def Abh:AP := .seq (.seq (.ops [po_ 21 (.fieldA 1 20 (.t 1)),po_ 22 (.load false 1 (.t 21)),so_ 23 (.call 35 [.t 22]),po_ 24 (.bin 9 .eql (.t 23) (.c (.string (str [])))),mv_ 25 24,⟨some 26,.p (.mov (.t 4)),some ⟨25,false⟩⟩,⟨some 27,.p (.un .not (.t 26)),some ⟨25,false⟩⟩,po_ 28 (.pick (.t 25) (.c (.bool true)) (.t 27)),mv_ 29 28,⟨some 30,.p (.mov (.t 6)),some ⟨29,false⟩⟩,⟨some 31,.p (.un .not (.t 30)),some ⟨29,false⟩⟩,po_ 32 (.pick (.t 29) (.c (.bool true)) (.t 31)),mv_ 33 32,⟨some 34,.p (.mov (.t 7)),some ⟨33,false⟩⟩,⟨some 35,.p (.un .not (.t 34)),some ⟨33,false⟩⟩,po_ 36 (.pick (.t 33) (.c (.bool true)) (.t 35))] [1,5,36])
 (.cond (.t 36)
 (.seq (.ops [po_ 2 (.mov (.c (.slice none 0 0))),po_ 3 (.mov (ci_ 23))] [2,3])
  (.ret))
 (.skip)))
 AaX
def Abc:AP := .seq (.ops [po_ 18 (.fieldA 4 26 (.t 1)),po_ 19 (.load false 1 (.t 18)),so_ 20 (.call 34 [.t 19]),mv_ 7 20] [1,4,5,6,7])
 Abh
def AaR:AP := .seq (.ops [po_ 13 (.fieldA 3 22 (.t 1)),po_ 14 (.load true 4 (.t 13)),so_ 15 (.call 33 [.t 14]),mv_ 12 15,po_ 16 (.ext 0 (.t 12)),po_ 17 (.ext 1 (.t 12)),mv_ 5 16,mv_ 6 17] [1,4,5,6])
 Abc
def Aaw:AP := .seq (.ops [po_ 9 (.fieldA 2 21 (.t 1)),po_ 10 (.load false 1 (.t 9)),so_ 11 (.call 32 [.t 10]),mv_ 4 11] [1,4])
 AaR
def Ak9:AP := .seq (.ops [so_ 1 (.box (.t 0)),po_ 2 (.mov (.c (.slice none 0 0))),po_ 3 (.mov (ci_ 0))] [1])
 Aaw
def Ak7:List VR:=[.tmp 2,.tmp 3]
theorem Avg:Tryz.f10.body.bind (trC Tryz.prog Tryz.f10.ntmps)=some (er Ak9):=by kernel_rfl
theorem AuV:trR Tryz.prog Tryz.f10.results.toList=some Ak7:=by kernel_rfl
def AmQ:=Ac AaX.eq_1
def Aml:=Ac Abh.eq_1
def Amf:=Ac Abc.eq_1
def Amr:=Ac AaR.eq_1
def Amn:=Ac Aaw.eq_1
def As2:=Ac Ak9.eq_1
theorem Lc {K:TV→Prop} {e:Env} {H:List Ob}:res Ak7 e H K=res [.tmp 2,.tmp 3] e H K:=Ap rfl
def Aur:=ES 59 Tryz.func10 Avg AuV rfl
def Adf:AP := .seq (.seq (.ops [mv_ 81 16,po_ 82 (.bin 3 .leq (.t 81) (ci_ 4))] [0,2,4,5,8,10,12,16,82])
 (.cond (.t 82)
 (.skip)
 (.exit 0)))
 (.seq (.block 1 (.seq (.ops [mv_ 85 16,so_ 86 (.call 35 [.t 85]),mv_ 87 8,po_ 88 (.bin 9 .eql (.t 86) (.t 87))] [0,2,4,5,8,10,12,16,88])
 (.cond (.t 88)
 (.ops [mv_ 89 16,po_ 90 (.fieldA 1 20 (.t 4)),⟨none,.s (.store 1 (.t 90) (.t 89)),none⟩] [0,2,4,5,8,10,12,16])
 (.skip))))
 (.ops [mv_ 83 16,po_ 84 (.bin 3 .add (.t 83) (ci_ 1)),mv_ 16 84] [0,2,4,5,8,10,12,16]))
def AeR:AP := .seq (.sdraw 13 [po_ 107 (.load true 27 (.t 4)),mv_ 108 15,mv_ 109 108,⟨some 110,.p (.mov (.t 18)),some ⟨109,true⟩⟩,⟨some 111,.p (.bin 3 .eql (.t 110) (ci_ 0)),some ⟨109,true⟩⟩,po_ 112 (.pick (.t 109) (.t 111) (.c (.bool false))),mv_ 113 112,⟨some 114,.p (.mov (.t 17)),some ⟨113,true⟩⟩,⟨some 115,.p (.b2s (.t 114)),some ⟨113,true⟩⟩,⟨some 116,.p (.mov (.t 0)),some ⟨113,true⟩⟩,⟨some 117,.p (.b2s (.t 116)),some ⟨113,true⟩⟩,⟨some 118,.p (.bin 9 .eql (.t 115) (.t 117)),some ⟨113,true⟩⟩,po_ 119 (.pick (.t 113) (.t 118) (.c (.bool false))),⟨none,.s (.store 27 (.t 2) (.t 107)),none⟩,mv_ 3 119] [2,3])
 (.ret)
def AeO:AP := .seq (.ops [po_ 103 (.load true 27 (.t 4)),so_ 104 (.call 10 [.t 103]),mv_ 102 104,po_ 105 (.ext 0 (.t 102)),po_ 106 (.ext 1 (.t 102)),mv_ 17 105,mv_ 18 106] [0,2,4,15,17,18])
 AeR
def AcP:AP := .seq (.ops [mv_ 99 5,po_ 100 (.slS (.t 99) (some (ci_ 1)) none),po_ 101 (.fieldA 4 26 (.t 4)),⟨none,.s (.store 1 (.t 101) (.t 100)),none⟩] [0,2,4,15])
 AeO
def AfW:AP := .seq (.ops [mv_ 94 12,so_ 95 (.call 78 [.t 94]),mv_ 93 95,po_ 96 (.ext 0 (.t 93)),po_ 97 (.ext 1 (.t 93)),po_ 98 (.fieldA 3 22 (.t 4)),⟨none,.s (.store 4 (.t 98) (.t 96)),none⟩,mv_ 15 97] [0,2,4,5,15])
 AcP
def Afa:AP := .seq (.ops [mv_ 91 10,po_ 92 (.fieldA 2 21 (.t 4)),⟨none,.s (.store 1 (.t 92) (.t 91)),none⟩] [0,2,4,5,12])
 AfW
def Aea:AP := .seq (.seq (.ops [po_ 16 (.mov (ci_ 1))] [0,2,4,5,8,10,12,16])
 (.block 0 (.loop [0,2,4,5,8,10,12,16] Adf)))
 Afa
def Afx:AP := .seq (.ops [po_ 79 (.load true 20 (.t 14)),po_ 80 (.fieldA 0 0 (.t 4)),⟨none,.s (.store 20 (.t 80) (.t 79)),none⟩] [0,2,4,5,8,10,12])
 Aea
def AeJ:AP := .seq (.seq (.ops [mv_ 50 7,po_ 51 (.un .not (.t 50)),mv_ 52 51,⟨some 53,.p (.mov (.t 9)),some ⟨52,false⟩⟩,⟨some 54,.p (.un .not (.t 53)),some ⟨52,false⟩⟩,po_ 55 (.pick (.t 52) (.c (.bool true)) (.t 54)),mv_ 56 55,⟨some 57,.p (.mov (.t 11)),some ⟨56,false⟩⟩,⟨some 58,.p (.un .not (.t 57)),some ⟨56,false⟩⟩,po_ 59 (.pick (.t 56) (.c (.bool true)) (.t 58)),mv_ 60 59,⟨some 61,.p (.mov (.t 13)),some ⟨60,false⟩⟩,⟨some 62,.p (.un .not (.t 61)),some ⟨60,false⟩⟩,po_ 63 (.pick (.t 60) (.c (.bool true)) (.t 62)),mv_ 64 63,⟨some 65,.p (.mov (.t 15)),some ⟨64,false⟩⟩,⟨some 66,.p (.un .not (.t 65)),some ⟨64,false⟩⟩,po_ 67 (.pick (.t 64) (.c (.bool true)) (.t 66)),mv_ 68 67,⟨some 69,.p (.mov (.t 5)),some ⟨68,false⟩⟩,⟨some 70,.p (.lenS (.t 69)),some ⟨68,false⟩⟩,⟨some 71,.p (.bin 3 .lss (.t 70) (ci_ 1)),some ⟨68,false⟩⟩,po_ 72 (.pick (.t 68) (.c (.bool true)) (.t 71)),mv_ 73 72,⟨some 74,.p (.mov (.t 5)),some ⟨73,false⟩⟩,⟨some 75,.p (.idxS (.t 74) (ci_ 0)),some ⟨73,false⟩⟩,⟨some 76,.p (.bin 5 .neq (.t 75) (.c (.int .u8 ((10:Nat):Int)))),some ⟨73,false⟩⟩,po_ 77 (.pick (.t 73) (.c (.bool true)) (.t 76))] [0,2,4,5,8,10,12,14,77])
 (.cond (.t 77)
 (.seq (.ops [po_ 78 (.load true 27 (.t 4)),⟨none,.s (.store 27 (.t 2) (.t 78)),none⟩,po_ 3 (.mov (.c (.bool false)))] [2,3])
  (.ret))
 (.skip)))
 Afx
def Abf:AP := .seq (.ops [mv_ 46 6,so_ 47 (.call 77 [.t 46]),mv_ 45 47,po_ 48 (.ext 0 (.t 45)),po_ 49 (.ext 1 (.t 45)),so_ 14 (.alloc (.arr 20 1 [.val (.int .u8 ((0:Nat):Int)),.val (.int .u8 ((0:Nat):Int)),.val (.int .u8 ((0:Nat):Int)),.val (.int .u8 ((0:Nat):Int)),.val (.int .u8 ((0:Nat):Int)),.val (.int .u8 ((0:Nat):Int)),.val (.int .u8 ((0:Nat):Int)),.val (.int .u8 ((0:Nat):Int)),.val (.int .u8 ((0:Nat):Int)),.val (.int .u8 ((0:Nat):Int)),.val (.int .u8 ((0:Nat):Int)),.val (.int .u8 ((0:Nat):Int)),.val (.int .u8 ((0:Nat):Int)),.val (.int .u8 ((0:Nat):Int)),.val (.int .u8 ((0:Nat):Int)),.val (.int .u8 ((0:Nat):Int)),.val (.int .u8 ((0:Nat):Int)),.val (.int .u8 ((0:Nat):Int)),.val (.int .u8 ((0:Nat):Int)),.val (.int .u8 ((0:Nat):Int))])),⟨none,.s (.store 20 (.t 14) (.t 48)),none⟩,mv_ 15 49] [0,2,4,5,7,8,9,10,11,12,13,14,15])
 AeJ
def Aa4:AP := .seq (.ops [mv_ 40 5,so_ 41 (.call 76 [.t 40,.c (.string (str [116,97,103,103,101,114]))]),mv_ 39 41,po_ 42 (.ext 0 (.t 39)),po_ 43 (.ext 1 (.t 39)),po_ 44 (.ext 2 (.t 39)),mv_ 12 42,mv_ 5 43,mv_ 13 44] [0,2,4,5,6,7,8,9,10,11,12,13])
 Abf
def AbE:AP := .seq (.ops [mv_ 34 5,so_ 35 (.call 76 [.t 34,.c (.string (str [116,97,103]))]),mv_ 33 35,po_ 36 (.ext 0 (.t 33)),po_ 37 (.ext 1 (.t 33)),po_ 38 (.ext 2 (.t 33)),mv_ 10 36,mv_ 5 37,mv_ 11 38] [0,2,4,5,6,7,8,9,10,11])
 Aa4
def Abq:AP := .seq (.ops [mv_ 28 5,so_ 29 (.call 76 [.t 28,.c (.string (str [116,121,112,101]))]),mv_ 27 29,po_ 30 (.ext 0 (.t 27)),po_ 31 (.ext 1 (.t 27)),po_ 32 (.ext 2 (.t 27)),mv_ 8 30,mv_ 5 31,mv_ 9 32] [0,2,4,5,6,7,8,9])
 AbE
def AbA:AP := .seq (.ops [mv_ 22 5,so_ 23 (.call 76 [.t 22,.c (.string (str [111,98,106,101,99,116]))]),mv_ 21 23,po_ 24 (.ext 0 (.t 21)),po_ 25 (.ext 1 (.t 21)),po_ 26 (.ext 2 (.t 21)),mv_ 6 24,mv_ 5 25,mv_ 7 26] [0,2,4,5,6,7])
 Abq
def Aa8:AP := .seq (.ops [mv_ 19 0,po_ 20 (.b2s (.t 19)),mv_ 5 20] [0,2,4,5])
 AbA
def AbF:AP := .seq (.ops [so_ 4 (.alloc (.agg [.arr 20 1 [.val (.int .u8 ((0:Nat):Int)),.val (.int .u8 ((0:Nat):Int)),.val (.int .u8 ((0:Nat):Int)),.val (.int .u8 ((0:Nat):Int)),.val (.int .u8 ((0:Nat):Int)),.val (.int .u8 ((0:Nat):Int)),.val (.int .u8 ((0:Nat):Int)),.val (.int .u8 ((0:Nat):Int)),.val (.int .u8 ((0:Nat):Int)),.val (.int .u8 ((0:Nat):Int)),.val (.int .u8 ((0:Nat):Int)),.val (.int .u8 ((0:Nat):Int)),.val (.int .u8 ((0:Nat):Int)),.val (.int .u8 ((0:Nat):Int)),.val (.int .u8 ((0:Nat):Int)),.val (.int .u8 ((0:Nat):Int)),.val (.int .u8 ((0:Nat):Int)),.val (.int .u8 ((0:Nat):Int)),.val (.int .u8 ((0:Nat):Int)),.val (.int .u8 ((0:Nat):Int))],.val (.int .i64 ((0:Nat):Int)),.val (.string (str [])),.agg [.val (.string (str [])),.val (.string (str [])),.val (.int .i64 ((0:Nat):Int)),.val (.int .i64 ((0:Nat):Int))],.val (.string (str []))]))] [0,2,4])
 Aa8
def Anu:AP := .seq (.ops [so_ 2 (.alloc (.agg [.arr 20 1 [.val (.int .u8 ((0:Nat):Int)),.val (.int .u8 ((0:Nat):Int)),.val (.int .u8 ((0:Nat):Int)),.val (.int .u8 ((0:Nat):Int)),.val (.int .u8 ((0:Nat):Int)),.val (.int .u8 ((0:Nat):Int)),.val (.int .u8 ((0:Nat):Int)),.val (.int .u8 ((0:Nat):Int)),.val (.int .u8 ((0:Nat):Int)),.val (.int .u8 ((0:Nat):Int)),.val (.int .u8 ((0:Nat):Int)),.val (.int .u8 ((0:Nat):Int)),.val (.int .u8 ((0:Nat):Int)),.val (.int .u8 ((0:Nat):Int)),.val (.int .u8 ((0:Nat):Int)),.val (.int .u8 ((0:Nat):Int)),.val (.int .u8 ((0:Nat):Int)),.val (.int .u8 ((0:Nat):Int)),.val (.int .u8 ((0:Nat):Int)),.val (.int .u8 ((0:Nat):Int))],.val (.int .i64 ((0:Nat):Int)),.val (.string (str [])),.agg [.val (.string (str [])),.val (.string (str [])),.val (.int .i64 ((0:Nat):Int)),.val (.int .i64 ((0:Nat):Int))],.val (.string (str []))])),po_ 3 (.mov (.c (.bool false)))] [0,2])
 AbF
def An2:List VR:=[.cell 2 true 27,.tmp 3]
theorem AwF:Tryz.f40.body.bind (trC Tryz.prog Tryz.f40.ntmps)=some (er Anu):=by kernel_rfl
theorem AwP:trR Tryz.prog Tryz.f40.results.toList=some An2:=by kernel_rfl
def Aad:=Ac Adf.eq_1
def IP:=Ac AeR.eq_1
def AoK:=Ac AeO.eq_1
def Ao1:=Ac AcP.eq_1
def AoL:=Ac AfW.eq_1
def Apq:=Ac Afa.eq_1
def Apd:=Ac Aea.eq_1
def ApN:=Ac Afx.eq_1
def ApD:=Ac AeJ.eq_1
def Ame:=Ac Abf.eq_1
def Al9:=Ac Aa4.eq_1
def AmC:=Ac AbE.eq_1
def Amj:=Ac Abq.eq_1
def Al0:=Ac AbA.eq_1
def Amt:=Ac Aa8.eq_1
def AmV:=Ac AbF.eq_1
def Aun:=Ac Anu.eq_1
theorem Gg {K:TV→Prop} {e:Env} {H:List Ob}:res An2 e H K=res [.cell 2 true 27,.tmp 3] e H K:=Ap rfl
def Avl:=ES 120 Tryz.func40 AwF AwP rfl
end
section
open Go.RowKit
variable [Cc]
theorem BnQ {s:List UInt8} (h60:s.length≤60):decide (MV s)=(!decide (∃ x∈s,x∈([60,62,10,0]:List UInt8)) && decide (Lib.trimB s 32=s)):=by
 have e:MV s↔(¬ ∃ x∈s,x∈([60,62,10,0]:List UInt8))∧Lib.trimB s 32=s:=by
  rw [Bkd]
  unfold MV
  constructor
  ·rintro ⟨_,h2,h3,h4⟩
   refine ⟨?_,h3,h4⟩
   rintro ⟨x,hx,hm⟩
   obtain ⟨a,b,c,d⟩:=h2 x hx
   simp at hm
   rcases hm with hm | hm | hm | hm
   ·exact a hm
   ·exact b hm
   ·exact c hm
   ·exact d hm
  ·rintro ⟨h1,h3,h4⟩
   refine ⟨h60,fun c hc => ?_,h3,h4⟩
   refine ⟨?_,?_,?_,?_⟩<;>(intro e; exact h1 ⟨c,hc,by simp [e]⟩)
 simp only [e,Bool.decide_and,decide_not]
theorem BpL (s:List UInt8):CE Tryz.prog 56 [ts s] (fun x=>x=tb (decide (MV s))):=by
 refine BD.toPureV (Avt (by simp) ?_)
 by_cases h60:s.length≤60
 ·rw [BnQ h60]
  simp -dsimp (disch:=first | assumption | omega | (simp only [Aa];try omega)) only [↓AB,Aj,AA,Az,eq_self,Nat.reduceEqDiff,↓reduceIte,reduceCtorEq,↓Uh,A8]
  refine (Atn s [60,62,10,0] (by omega) (by decide) (by simp) (by simp)).calls rfl fun x hx => ?_
  subst hx
  generalize decide (∃ x∈s,x∈([60,62,10,0]:List UInt8))=b
  cases b with
  | true =>
   simp -dsimp (disch:=first | assumption | omega | (simp only [Aa];try omega)) only [↓AB,Aj,AA,Az,eq_self,Nat.reduceEqDiff,↓reduceIte,↓Uh]
   rfl
  | false =>
   simp -dsimp (disch:=first | assumption | omega | (simp only [Aa];try omega)) only [↓AB,Aj,AA,Az,eq_self,Nat.reduceEqDiff,↓reduceIte,reduceCtorEq]
   refine (Bo6 s 32 (by decide) (by omega)).calls rfl fun x hx => ?_
   subst hx
   simp -dsimp (disch:=first | assumption | omega | (simp only [Aa];try omega)) only [↓AB,Aj,AA,Az,eq_self,Nat.reduceEqDiff,↓reduceIte,reduceCtorEq,↓Uh]
   simp
 ·have e:decide (MV s)=false:=by
   rw [decide_eq_false_iff_not]
   exact fun h=>h60 h.1
  rw [e]
  simp -dsimp (disch:=first | assumption | omega | (simp only [Aa];try omega)) only [↓AB,Aj,AA,Az,eq_self,Nat.reduceEqDiff,↓reduceIte,reduceCtorEq,↓Uh,A8]
theorem Bni (s:List UInt8):CE Tryz.prog 28 [ts s] (fun x=>x=tb (Wq s)):=by
 refine BD.toPureV (Apo (by simp) ?_)
 unfold Wq
 by_cases h:s.length≤2000
 ·simp -dsimp (disch:=first | assumption | omega | (simp only [Aa];try omega)) only [↓AB,Aj,AA,Az,eq_self,Nat.reduceEqDiff,↓reduceIte,reduceCtorEq,↓Qy,A8]
  refine (Azv s 0).calls rfl fun x hx => ?_
  subst hx
  simp -dsimp (disch:=first | assumption | omega | (simp only [Aa];try omega)) only [↓AB,Aj,AA,Az,eq_self,Nat.reduceEqDiff,↓reduceIte,↓Qy]
  simp [h]
 ·simp -dsimp (disch:=first | assumption | omega | (simp only [Aa];try omega)) only [↓AB,Aj,AA,Az,eq_self,Nat.reduceEqDiff,↓reduceIte,reduceCtorEq,↓Qy,A8]
  simp [h]
theorem Btl (s:List UInt8) (hs:s.length≤1000000):CE Tryz.prog 27 [ts s] (fun x=>x=tb (Wx s)):=by
 refine BD.toPureV (Avf (by simp) ?_)
 have hlong:ArI=str letters:=by rfl
 by_cases h0:0<s.length
 ·by_cases h60:s.length≤60
  ·have e:Wx s=decide (Lib.trimS s letters=[]):=by
    rw [Bool.eq_iff_iff,Axh,decide_eq_true_eq]
    exact ⟨fun h=>h.2.2,fun h=>⟨h0,h60,h⟩⟩
   rw [e]
   simp -dsimp (disch:=first | assumption | omega | (simp only [Aa];try omega)) only [↓AB,Aj,AA,Az,eq_self,Nat.reduceEqDiff,↓reduceIte,reduceCtorEq,↓Ug,A8,hlong]
   refine (Bm6 s letters hs (by decide) (by decide)).calls rfl fun x hx => ?_
   subst hx
   simp -dsimp (disch:=first | assumption | omega | (simp only [Aa];try omega)) only [↓AB,Aj,AA,Az,eq_self,Nat.reduceEqDiff,↓reduceIte,↓Ug]
  ·have e:Wx s=false:=by unfold Wx; simp [h60]
   rw [e]
   simp -dsimp (disch:=first | assumption | omega | (simp only [Aa];try omega)) only [↓AB,Aj,AA,Az,eq_self,Nat.reduceEqDiff,↓reduceIte,reduceCtorEq,↓Ug,A8]
 ·have e:Wx s=false:=by unfold Wx; simp [h0]
  rw [e]
  simp -dsimp (disch:=first | assumption | omega | (simp only [Aa];try omega)) only [↓AB,Aj,AA,Az,eq_self,Nat.reduceEqDiff,↓reduceIte,reduceCtorEq,↓Ug,A8]
end
end Go.Proofs.YtliaddbbmnfioaaGreatDoor
