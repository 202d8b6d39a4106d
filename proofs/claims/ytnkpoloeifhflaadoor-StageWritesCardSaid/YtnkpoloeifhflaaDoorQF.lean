/- What the proof of StageWritesCard stands on (texts merged; names shortened by a program): part 6. -/
import Derived.Test.YtnkpoloeifhflaaDoorQE
import Derived.Test.YtnkpoloeifhflaaDoorProg
import Derived.KernelRfl
import Derived.Lib.Strings
import Derived.Laws.Cover1
import Derived.Shelf.Small.Utf8
import Derived.Shelf.Small.Strs
import Derived.Shelf.Small.Wraps
import Derived.Shelf.Strings.Search1
import Derived.Shelf.Strings.Search2
import Derived.Shelf.Strings.Search3
import Derived.Shelf.LaysM
import Derived.Shelf.Strings.Shaped
import Derived.Shelf.Unicode.Decode
import Derived.Shelf.Strings.Runes
import Derived.Shelf.Strings.IndexAny
import Derived.Shelf.Strings.AsciiSet
import Derived.Shelf.Strings.IndexAnyAll
import Derived.Shelf.Unicode.DecodeSlow
import Derived.Shelf.Unicode.DecodeAny
import Derived.Ground.Names2Prog
import Derived.Shelf.Slices.SearchI
import Derived.Shelf.Bytes.Small
import Derived.WalkKit
import Derived.Sort.Grow
import Derived.Lib.Bytealg
import Derived.Laws.RangeAny
import Derived.Lib.TrimU
set_option linter.defProp false
set_option linter.unusedSectionVars false
set_option linter.unusedSimpArgs false
set_option linter.unusedVariables false
namespace Go.Proofs.YtnkpoloeifhflaaDoor
section
variable [AtQ]
set_option maxRecDepth 100000
def Auy:Atc := .ops [mv_ 4 0,mv_ 5 0,po_ 6 (.lenV (.t 5)),mv_ 7 1,so_ 8 (.call 43 [.t 4,.t 6,.t 7])] []
def Aux:List VR:=[]
theorem Aw5:Tryd.f27.body.bind (trC Tryd.prog Tryd.f27.ntmps)=some (er Auy):=by kernel_rfl
theorem Aw9:trR Tryd.prog Tryd.f27.results.toList=some Aux:=by kernel_rfl
def AwR:=As8 Auy.eq_1
theorem AwP {K:TV→Prop} {e:Env} {H:List Ob}:res Aux e H K=res [] e H K:=As9 rfl
def Atu:=(aI_ @AwR @AwP)
def Auu:=Awn 9 Tryd.func27 Aw5 Aw9 rfl
def Av2:Atc := .seq (.seq (.ops [mv_ 11 8,mv_ 12 1,po_ 13 (.bin 3 .leq (.t 11) (.t 12))] [0,1,2,6,7,8,13])
 (.cond (.t 13)
 (.skip)
 (.exit 0)))
 (.block 1 (.seq (.ops [mv_ 14 0,mv_ 15 7,mv_ 16 8,mv_ 17 2,so_ 18 (.call 56 [.t 14,.t 15,.t 16,.t 17])] [0,1,2,6,8])
 (.seq (.ops [mv_ 19 8,mv_ 7 19] [0,1,2,6,7,8])
 (.ops [mv_ 20 8,mv_ 21 6,po_ 22 (.bin 3 .add (.t 20) (.t 21)),mv_ 8 22] [0,1,2,6,7,8]))))
def Awb:Atc := .block 5 (.seq (.ops [mv_ 36 0,mv_ 37 7,mv_ 38 7,mv_ 39 6,po_ 40 (.bin 3 .add (.t 38) (.t 39)),mv_ 41 8,mv_ 42 2,so_ 43 (.call 57 [.t 36,.t 37,.t 40,.t 41,.t 42])] [0,1,2,6,8])
 (.seq (.ops [mv_ 44 8,mv_ 7 44] [0,1,2,6,7,8])
 (.ops [mv_ 45 8,mv_ 46 6,po_ 47 (.bin 3 .mul (ci_ 2) (.t 46)),po_ 48 (.bin 3 .add (.t 45) (.t 47)),mv_ 8 48] [0,1,2,6,7,8])))
def Av9:Atc := .seq (.seq (.ops [mv_ 33 8,mv_ 34 1,po_ 35 (.bin 3 .leq (.t 33) (.t 34))] [0,1,2,6,7,8,35])
 (.cond (.t 35)
 (.skip)
 (.exit 4)))
 Awb
def Awi:Atc := .seq (.seq (.ops [mv_ 49 7,mv_ 50 6,po_ 51 (.bin 3 .add (.t 49) (.t 50)),mv_ 9 51] [0,1,2,6,7,9])
 (.seq (.ops [mv_ 52 9,mv_ 53 1,po_ 54 (.bin 3 .lss (.t 52) (.t 53))] [0,1,2,6,7,9,54])
 (.cond (.t 54)
 (.ops [mv_ 55 0,mv_ 56 7,mv_ 57 9,mv_ 58 1,mv_ 59 2,so_ 60 (.call 57 [.t 55,.t 56,.t 57,.t 58,.t 59])] [0,1,2,6])
 (.skip))))
 (.ops [mv_ 61 6,po_ 62 (.bin 3 .mul (.t 61) (ci_ 2)),mv_ 6 62] [0,1,2,6])
def Awj:Atc := .seq (.block 4 (.loop [0,1,2,6,7,8] Av9))
 Awi
def AvZ:Atc := .block 3 (.seq (.ops [mv_ 31 6,po_ 32 (.bin 3 .mul (ci_ 2) (.t 31)),po_ 7 (.mov (ci_ 0)),mv_ 8 32] [0,1,2,6,7,8])
 Awj)
def Awd:Atc := .seq (.seq (.ops [mv_ 28 6,mv_ 29 1,po_ 30 (.bin 3 .lss (.t 28) (.t 29))] [0,1,2,6,30])
 (.cond (.t 30)
 (.skip)
 (.exit 2)))
 AvZ
def Aup:Atc := .block 2 (.loop [0,1,2,6] Awd)
def Awg:Atc := .seq (.ops [mv_ 23 0,mv_ 24 7,mv_ 25 1,mv_ 26 2,so_ 27 (.call 56 [.t 23,.t 24,.t 25,.t 26])] [0,1,2,6])
 Aup
def AvU:Atc := .seq (.block 0 (.loop [0,1,2,6,7,8] Av2))
 Awg
def AvS:Atc := .seq (.ops [mv_ 10 6,po_ 7 (.mov (ci_ 0)),mv_ 8 10] [0,1,2,6,7,8])
 AvU
def AwH:Atc := .seq (.ops [po_ 6 (.mov (ci_ 20))] [0,1,2,6])
 AvS
def AuN:List VR:=[]
theorem AzN:Tryd.f43.body.bind (trC Tryd.prog Tryd.f43.ntmps)=some (er AwH):=by kernel_rfl
theorem AzL:trR Tryd.prog Tryd.f43.results.toList=some AuN:=by kernel_rfl
def Aug:=As8 Av2.eq_1
def AvA:=As8 Awb.eq_1
def AtJ:=As8 Av9.eq_1
def Auh:=As8 Awi.eq_1
def AvF:=As8 Awj.eq_1
def AvE:=As8 AvZ.eq_1
def Aui:=As8 Awd.eq_1
def AvJ:=As8 Aup.eq_1
def AvM:=As8 Awg.eq_1
def Ave:=As8 AvU.eq_1
def Avn:=As8 AvS.eq_1
def Awo:=As8 AwH.eq_1
theorem Awr {K:TV→Prop} {e:Env} {H:List Ob}:res AuN e H K=res [] e H K:=As9 rfl
def At6:=(aI_ (aI_ (aI_ (aI_ @Aug @AvA) (aI_ @AtJ @Auh)) (aI_ (aI_ @AvF @AvE) (aI_ @Aui @AvJ))) (aI_ (aI_ (aI_ @AvM @Ave) (aI_ @Avn @Awo)) @Awr))
def Awz:=Awn 63 Tryd.func43 AzN AzL rfl
def AuD:Atc := .seq (.block 3 (.draw 10 [mv_ 37 0,mv_ 38 9,mv_ 39 0,mv_ 40 9,po_ 41 (.bin 3 .sub (.t 40) (ci_ 1)),mv_ 42 0,mv_ 43 9,po_ 44 (.bin 3 .sub (.t 43) (ci_ 1)),po_ 45 (.idxA 24 (.t 42) (.t 44)),po_ 46 (.load true 24 (.t 45)),mv_ 47 0,mv_ 48 9,po_ 49 (.idxA 24 (.t 47) (.t 48)),po_ 50 (.load true 24 (.t 49)),po_ 51 (.idxA 24 (.t 37) (.t 38)),⟨none,.s (.store 24 (.t 51) (.t 46)),none⟩,po_ 52 (.idxA 24 (.t 39) (.t 41)),⟨none,.s (.store 24 (.t 52) (.t 50)),none⟩] [0,1,2,3,8,9]))
 (.ops [mv_ 35 9,po_ 36 (.bin 3 .sub (.t 35) (ci_ 1)),mv_ 9 36] [0,1,2,3,8,9])
def AuG:Atc := .seq (.seq (.draw 10 [mv_ 18 9,mv_ 19 1,po_ 20 (.bin 3 .gtr (.t 18) (.t 19)),mv_ 21 20,⟨some 22,.p (.mov (.t 3)),some ⟨21,true⟩⟩,⟨some 23,.p (.mov (.t 0)),some ⟨21,true⟩⟩,⟨some 24,.p (.mov (.t 9)),some ⟨21,true⟩⟩,⟨some 25,.p (.idxA 24 (.t 23) (.t 24)),some ⟨21,true⟩⟩,⟨some 26,.p (.load true 24 (.t 25)),some ⟨21,true⟩⟩,⟨some 27,.p (.mov (.t 0)),some ⟨21,true⟩⟩,⟨some 28,.p (.mov (.t 9)),some ⟨21,true⟩⟩,⟨some 29,.p (.bin 3 .sub (.t 28) (ci_ 1)),some ⟨21,true⟩⟩,⟨some 30,.p (.idxA 24 (.t 27) (.t 29)),some ⟨21,true⟩⟩,⟨some 31,.p (.load true 24 (.t 30)),some ⟨21,true⟩⟩,⟨some 32,.s (.callv (.t 22) [.t 26,.t 31]),some ⟨21,true⟩⟩,⟨some 33,.p (.bin 3 .lss (.t 32) (ci_ 0)),some ⟨21,true⟩⟩,po_ 34 (.pick (.t 21) (.t 33) (.c (.bool false)))] [0,1,2,3,8,9,34])
 (.cond (.t 34)
 (.skip)
 (.exit 2)))
 AuD
def AuE:Atc := .block 2 (.loop [0,1,2,3,8,9] AuG)
def AuH:Atc := .ops [mv_ 15 8,po_ 16 (.bin 3 .add (.t 15) (ci_ 1)),mv_ 8 16] [0,1,2,3,8]
def AuI:Atc := .seq (.block 1 (.seq (.ops [mv_ 17 8,mv_ 9 17] [0,1,2,3,8,9])
 AuE))
 AuH
def AuK:Atc := .seq (.seq (.ops [mv_ 12 8,mv_ 13 2,po_ 14 (.bin 3 .lss (.t 12) (.t 13))] [0,1,2,3,8,14])
 (.cond (.t 14)
 (.skip)
 (.exit 0)))
 AuI
def AuL:Atc := .block 0 (.loop [0,1,2,3,8] AuK)
def Au2:Atc := .seq (.ops [mv_ 10 1,po_ 11 (.bin 3 .add (.t 10) (ci_ 1)),mv_ 8 11] [0,1,2,3,8])
 AuL
def Au6:List VR:=[]
theorem AxL:Tryd.f56.body.bind (trC Tryd.prog Tryd.f56.ntmps)=some (er Au2):=by kernel_rfl
theorem AxJ:trR Tryd.prog Tryd.f56.results.toList=some Au6:=by kernel_rfl
def AwT:=As8 AuD.eq_1
def AwY:=As8 AuG.eq_1
def AwV:=As8 AuE.eq_1
def AwS:=As8 AuH.eq_1
def AwX:=As8 AuI.eq_1
def AwW:=As8 AuK.eq_1
def AwU:=As8 AuL.eq_1
def Axi:=As8 Au2.eq_1
theorem Axh {K:TV→Prop} {e:Env} {H:List Ob}:res Au6 e H K=res [] e H K:=As9 rfl
def Atg:=(aI_ (aI_ (aI_ (aI_ @AwT @AwY) (aI_ @AwV @AwS)) (aI_ (aI_ @AwX @AwW) (aI_ @AwU @Axi))) @Axh)
def AuW:=Awn 53 Tryd.func56 AxL AxJ rfl
def AvI:Atc := .seq (.draw 5 [mv_ 40 4,mv_ 41 0,mv_ 42 12,po_ 43 (.idxA 24 (.t 41) (.t 42)),po_ 44 (.load true 24 (.t 43)),mv_ 45 0,mv_ 46 1,po_ 47 (.idxA 24 (.t 45) (.t 46)),po_ 48 (.load true 24 (.t 47)),so_ 49 (.callv (.t 40) [.t 44,.t 48]),po_ 50 (.bin 3 .lss (.t 49) (ci_ 0))] [0,1,4,10,11,12,50])
 (.cond (.t 50)
 (.ops [mv_ 51 12,po_ 52 (.bin 3 .add (.t 51) (ci_ 1)),mv_ 10 52] [0,1,4,10,11])
 (.ops [mv_ 53 12,mv_ 11 53] [0,1,4,10,11]))
def AvP:Atc := .block 1 (.seq (.ops [mv_ 34 10,mv_ 35 11,po_ 36 (.bin 3 .add (.t 34) (.t 35)),po_ 37 (.conv .u64 (.t 36)),po_ 38 (.bin 45 .shr (.t 37) (.c (.int .u64 ((1:Nat):Int)))),po_ 39 (.conv .i64 (.t 38)),mv_ 12 39] [0,1,4,10,11,12])
 AvI)
def AvK:Atc := .seq (.seq (.ops [mv_ 31 10,mv_ 32 11,po_ 33 (.bin 3 .lss (.t 31) (.t 32))] [0,1,4,10,11,33])
 (.cond (.t 33)
 (.skip)
 (.exit 0)))
 AvP
def AvO:Atc := .seq (.block 3 (.draw 10 [mv_ 61 0,mv_ 62 13,mv_ 63 0,mv_ 64 13,po_ 65 (.bin 3 .add (.t 64) (ci_ 1)),mv_ 66 0,mv_ 67 13,po_ 68 (.bin 3 .add (.t 67) (ci_ 1)),po_ 69 (.idxA 24 (.t 66) (.t 68)),po_ 70 (.load true 24 (.t 69)),mv_ 71 0,mv_ 72 13,po_ 73 (.idxA 24 (.t 71) (.t 72)),po_ 74 (.load true 24 (.t 73)),po_ 75 (.idxA 24 (.t 61) (.t 62)),⟨none,.s (.store 24 (.t 75) (.t 70)),none⟩,po_ 76 (.idxA 24 (.t 63) (.t 65)),⟨none,.s (.store 24 (.t 76) (.t 74)),none⟩] [0,10,13]))
 (.ops [mv_ 59 13,po_ 60 (.bin 3 .add (.t 59) (ci_ 1)),mv_ 13 60] [0,10,13])
def AvC:Atc := .seq (.seq (.ops [mv_ 55 13,mv_ 56 10,po_ 57 (.bin 3 .sub (.t 56) (ci_ 1)),po_ 58 (.bin 3 .lss (.t 55) (.t 57))] [0,10,13,58])
 (.cond (.t 58)
 (.skip)
 (.exit 2)))
 AvO
def AvN:Atc := .block 2 (.loop [0,10,13] AvC)
def AvD:Atc := .ret
def AvG:Atc := .seq (.seq (.ops [mv_ 54 1,mv_ 13 54] [0,10,13])
 AvN)
 AvD
def AvH:Atc := .seq (.block 0 (.loop [0,1,4,10,11] AvK))
 AvG
def Avq:Atc := .seq (.ops [mv_ 30 3,mv_ 11 30] [0,1,4,10,11])
 AvH
def At9:Atc := .seq (.ops [mv_ 29 2,mv_ 10 29] [0,1,3,4,10])
 Avq
def Avk:Atc := .cond (.t 28)
 At9
 (.skip)
def Avg:Atc := .seq (.draw 5 [mv_ 92 4,mv_ 93 0,mv_ 94 2,po_ 95 (.idxA 24 (.t 93) (.t 94)),po_ 96 (.load true 24 (.t 95)),mv_ 97 0,mv_ 98 16,po_ 99 (.idxA 24 (.t 97) (.t 98)),po_ 100 (.load true 24 (.t 99)),so_ 101 (.callv (.t 92) [.t 96,.t 100]),po_ 102 (.bin 3 .lss (.t 101) (ci_ 0)),po_ 103 (.un .not (.t 102))] [0,2,4,14,15,16,103])
 (.cond (.t 103)
 (.ops [mv_ 104 16,po_ 105 (.bin 3 .add (.t 104) (ci_ 1)),mv_ 14 105] [0,2,4,14,15])
 (.ops [mv_ 106 16,mv_ 15 106] [0,2,4,14,15]))
def Avy:Atc := .block 5 (.seq (.ops [mv_ 86 14,mv_ 87 15,po_ 88 (.bin 3 .add (.t 86) (.t 87)),po_ 89 (.conv .u64 (.t 88)),po_ 90 (.bin 45 .shr (.t 89) (.c (.int .u64 ((1:Nat):Int)))),po_ 91 (.conv .i64 (.t 90)),mv_ 16 91] [0,2,4,14,15,16])
 Avg)
def Au9:Atc := .seq (.seq (.ops [mv_ 83 14,mv_ 84 15,po_ 85 (.bin 3 .lss (.t 83) (.t 84))] [0,2,4,14,15,85])
 (.cond (.t 85)
 (.skip)
 (.exit 4)))
 Avy
def Avw:Atc := .seq (.block 7 (.draw 10 [mv_ 113 0,mv_ 114 17,mv_ 115 0,mv_ 116 17,po_ 117 (.bin 3 .sub (.t 116) (ci_ 1)),mv_ 118 0,mv_ 119 17,po_ 120 (.bin 3 .sub (.t 119) (ci_ 1)),po_ 121 (.idxA 24 (.t 118) (.t 120)),po_ 122 (.load true 24 (.t 121)),mv_ 123 0,mv_ 124 17,po_ 125 (.idxA 24 (.t 123) (.t 124)),po_ 126 (.load true 24 (.t 125)),po_ 127 (.idxA 24 (.t 113) (.t 114)),⟨none,.s (.store 24 (.t 127) (.t 122)),none⟩,po_ 128 (.idxA 24 (.t 115) (.t 117)),⟨none,.s (.store 24 (.t 128) (.t 126)),none⟩] [0,14,17]))
 (.ops [mv_ 111 17,po_ 112 (.bin 3 .sub (.t 111) (ci_ 1)),mv_ 17 112] [0,14,17])
def Avf:Atc := .seq (.seq (.ops [mv_ 108 17,mv_ 109 14,po_ 110 (.bin 3 .gtr (.t 108) (.t 109))] [0,14,17,110])
 (.cond (.t 110)
 (.skip)
 (.exit 6)))
 Avw
def Avu:Atc := .block 6 (.loop [0,14,17] Avf)
def Avj:Atc := .ret
def Avi:Atc := .seq (.seq (.ops [mv_ 107 2,mv_ 17 107] [0,14,17])
 Avu)
 Avj
def Avb:Atc := .seq (.block 4 (.loop [0,2,4,14,15] Au9))
 Avi
def Avx:Atc := .seq (.ops [mv_ 82 2,mv_ 15 82] [0,2,4,14,15])
 Avb
def At8:Atc := .seq (.ops [mv_ 81 1,mv_ 14 81] [0,2,4,14])
 Avx
def Avr:Atc := .cond (.t 80)
 At8
 (.skip)
def Avs:Atc := .seq (.draw 7 [mv_ 158 4,mv_ 159 0,mv_ 160 22,mv_ 161 23,po_ 162 (.bin 3 .sub (.t 160) (.t 161)),po_ 163 (.idxA 24 (.t 159) (.t 162)),po_ 164 (.load true 24 (.t 163)),mv_ 165 0,mv_ 166 23,po_ 167 (.idxA 24 (.t 165) (.t 166)),po_ 168 (.load true 24 (.t 167)),so_ 169 (.callv (.t 158) [.t 164,.t 168]),po_ 170 (.bin 3 .lss (.t 169) (ci_ 0)),po_ 171 (.un .not (.t 170))] [0,1,2,3,4,18,19,20,21,22,23,171])
 (.cond (.t 171)
 (.ops [mv_ 172 23,po_ 173 (.bin 3 .add (.t 172) (ci_ 1)),mv_ 20 173] [0,1,2,3,4,18,19,20,21,22])
 (.ops [mv_ 174 23,mv_ 21 174] [0,1,2,3,4,18,19,20,21,22]))
def Avo:Atc := .block 9 (.seq (.ops [mv_ 152 20,mv_ 153 21,po_ 154 (.bin 3 .add (.t 152) (.t 153)),po_ 155 (.conv .u64 (.t 154)),po_ 156 (.bin 45 .shr (.t 155) (.c (.int .u64 ((1:Nat):Int)))),po_ 157 (.conv .i64 (.t 156)),mv_ 23 157] [0,1,2,3,4,18,19,20,21,22,23])
 Avs)
def Avt:Atc := .seq (.seq (.ops [mv_ 149 20,mv_ 150 21,po_ 151 (.bin 3 .lss (.t 149) (.t 150))] [0,1,2,3,4,18,19,20,21,22,151])
 (.cond (.t 151)
 (.skip)
 (.exit 8)))
 Avo
def Auc:Atc := .seq (.ops [mv_ 206 18,mv_ 207 24,po_ 208 (.bin 3 .lss (.t 206) (.t 207)),mv_ 209 208,⟨some 210,.p (.mov (.t 24)),some ⟨209,true⟩⟩,⟨some 211,.p (.mov (.t 3)),some ⟨209,true⟩⟩,⟨some 212,.p (.bin 3 .lss (.t 210) (.t 211)),some ⟨209,true⟩⟩,po_ 213 (.pick (.t 209) (.t 212) (.c (.bool false)))] [0,3,4,18,24,213])
 (.cond (.t 213)
 (.ops [mv_ 214 0,mv_ 215 18,mv_ 216 24,mv_ 217 3,mv_ 218 4,so_ 219 (.call 57 [.t 214,.t 215,.t 216,.t 217,.t 218])] [])
 (.skip))
def Aua:Atc := .seq (.seq (.ops [mv_ 192 1,mv_ 193 20,po_ 194 (.bin 3 .lss (.t 192) (.t 193)),mv_ 195 194,⟨some 196,.p (.mov (.t 20)),some ⟨195,true⟩⟩,⟨some 197,.p (.mov (.t 18)),some ⟨195,true⟩⟩,⟨some 198,.p (.bin 3 .lss (.t 196) (.t 197)),some ⟨195,true⟩⟩,po_ 199 (.pick (.t 195) (.t 198) (.c (.bool false)))] [0,1,3,4,18,20,24,199])
 (.cond (.t 199)
 (.ops [mv_ 200 0,mv_ 201 1,mv_ 202 20,mv_ 203 18,mv_ 204 4,so_ 205 (.call 57 [.t 200,.t 201,.t 202,.t 203,.t 204])] [0,3,4,18,24])
 (.skip)))
 Auc
def Avc:Atc := .seq (.seq (.ops [mv_ 178 20,mv_ 179 2,po_ 180 (.bin 3 .lss (.t 178) (.t 179)),mv_ 181 180,⟨some 182,.p (.mov (.t 2)),some ⟨181,true⟩⟩,⟨some 183,.p (.mov (.t 24)),some ⟨181,true⟩⟩,⟨some 184,.p (.bin 3 .lss (.t 182) (.t 183)),some ⟨181,true⟩⟩,po_ 185 (.pick (.t 181) (.t 184) (.c (.bool false)))] [0,1,2,3,4,18,20,24,185])
 (.cond (.t 185)
 (.ops [mv_ 186 0,mv_ 187 20,mv_ 188 2,mv_ 189 24,mv_ 190 4,so_ 191 (.call 66 [.t 186,.t 187,.t 188,.t 189,.t 190])] [0,1,3,4,18,20,24])
 (.skip)))
 Aua
def Aub:Atc := .seq (.ops [mv_ 175 19,mv_ 176 20,po_ 177 (.bin 3 .sub (.t 175) (.t 176)),mv_ 24 177] [0,1,2,3,4,18,20,24])
 Avc
def Au7:Atc := .seq (.block 8 (.loop [0,1,2,3,4,18,19,20,21,22] Avt))
 Aub
def At7:Atc := .seq (.ops [mv_ 147 19,po_ 148 (.bin 3 .sub (.t 147) (ci_ 1)),mv_ 22 148] [0,1,2,3,4,18,19,20,21,22])
 Au7
def Avm:Atc := .seq (.seq (.ops [mv_ 138 2,mv_ 139 18,po_ 140 (.bin 3 .gtr (.t 138) (.t 139))] [0,1,2,3,4,18,19,140])
 (.cond (.t 140)
 (.seq (.ops [mv_ 141 19,mv_ 142 3,po_ 143 (.bin 3 .sub (.t 141) (.t 142)),mv_ 20 143] [0,1,2,3,4,18,19,20])
  (.ops [mv_ 144 18,mv_ 21 144] [0,1,2,3,4,18,19,20,21]))
 (.seq (.ops [mv_ 145 1,mv_ 20 145] [0,1,2,3,4,18,19,20])
  (.ops [mv_ 146 2,mv_ 21 146] [0,1,2,3,4,18,19,20,21]))))
 At7
def Avz:Atc := .seq (.ops [po_ 20 (.mov (ci_ 0)),po_ 21 (.mov (ci_ 0))] [0,1,2,3,4,18,19])
 Avm
def Avv:Atc := .seq (.ops [mv_ 135 18,mv_ 136 2,po_ 137 (.bin 3 .add (.t 135) (.t 136)),mv_ 19 137] [0,1,2,3,4,18,19])
 Avz
def Ava:Atc := .seq (.ops [mv_ 129 1,mv_ 130 3,po_ 131 (.bin 3 .add (.t 129) (.t 130)),po_ 132 (.conv .u64 (.t 131)),po_ 133 (.bin 45 .shr (.t 132) (.c (.int .u64 ((1:Nat):Int)))),po_ 134 (.conv .i64 (.t 133)),mv_ 18 134] [0,1,2,3,4,18])
 Avv
def Avl:Atc := .seq (.seq (.ops [mv_ 77 3,mv_ 78 2,po_ 79 (.bin 3 .sub (.t 77) (.t 78)),po_ 80 (.bin 3 .eql (.t 79) (ci_ 1))] [0,1,2,3,4,80])
 Avr)
 Ava
def Aws:Atc := .seq (.seq (.ops [mv_ 25 2,mv_ 26 1,po_ 27 (.bin 3 .sub (.t 25) (.t 26)),po_ 28 (.bin 3 .eql (.t 27) (ci_ 1))] [0,1,2,3,4,28])
 Avk)
 Avl
def Ats:List VR:=[]
theorem AyD:Tryd.f57.body.bind (trC Tryd.prog Tryd.f57.ntmps)=some (er Aws):=by kernel_rfl
theorem AyE:trR Tryd.prog Tryd.f57.results.toList=some Ats:=by kernel_rfl
def AxM:=As8 AvI.eq_1
def AxP:=As8 AvP.eq_1
def Au4:=As8 AvK.eq_1
def AxQ:=As8 AvO.eq_1
def Au5:=As8 AvC.eq_1
def AxO:=As8 AvN.eq_1
def AxN:=As8 AvD.eq_1
def AxR:=As8 AvG.eq_1
def AxF:=As8 AvH.eq_1
def Axm:=As8 Avq.eq_1
def Axq:=As8 At9.eq_1
def Atx:=As8 Avk.eq_1
def Axy:=As8 Avg.eq_1
def AxD:=As8 Avy.eq_1
def AuV:=As8 Au9.eq_1
def AxC:=As8 Avw.eq_1
def AuS:=As8 Avf.eq_1
def AxB:=As8 Avu.eq_1
def Axu:=As8 Avj.eq_1
def Axz:=As8 Avi.eq_1
def Axw:=As8 Avb.eq_1
def AxE:=As8 Avx.eq_1
def Axo:=As8 At8.eq_1
def AtX:=As8 Avr.eq_1
def AxA:=As8 Avs.eq_1
def Axr:=As8 Avo.eq_1
def AuY:=As8 Avt.eq_1
def At3:=As8 Auc.eq_1
def AtY:=As8 Aua.eq_1
def At4:=As8 Avc.eq_1
def AtV:=As8 Aub.eq_1
def Axs:=As8 Au7.eq_1
def Axv:=As8 At7.eq_1
def AuT:=As8 Avm.eq_1
def AuX:=As8 Avz.eq_1
def AuU:=As8 Avv.eq_1
def AuR:=As8 Ava.eq_1
def At1:=As8 Avl.eq_1
def AtN:=As8 Aws.eq_1
theorem Atv {K:TV→Prop} {e:Env} {H:List Ob}:res Ats e H K=res [] e H K:=As9 rfl
def Ayg:=Awn 220 Tryd.func57 AyD AyE rfl
def AvY:Atc := .seq (.ops [mv_ 24 0,mv_ 25 2,mv_ 26 10,po_ 27 (.bin 3 .sub (.t 25) (.t 26)),mv_ 28 2,mv_ 29 11,mv_ 30 4,so_ 31 (.call 77 [.t 24,.t 27,.t 28,.t 29,.t 30])] [0,2,4,10,11])
 (.ops [mv_ 32 10,mv_ 33 11,po_ 34 (.bin 3 .sub (.t 32) (.t 33)),mv_ 10 34] [0,2,4,10,11])
def Awc:Atc := .seq (.ops [mv_ 35 0,mv_ 36 2,mv_ 37 10,po_ 38 (.bin 3 .sub (.t 36) (.t 37)),mv_ 39 2,mv_ 40 11,po_ 41 (.bin 3 .add (.t 39) (.t 40)),mv_ 42 10,po_ 43 (.bin 3 .sub (.t 41) (.t 42)),mv_ 44 10,mv_ 45 4,so_ 46 (.call 77 [.t 35,.t 38,.t 43,.t 44,.t 45])] [0,2,4,10,11])
 (.ops [mv_ 47 11,mv_ 48 10,po_ 49 (.bin 3 .sub (.t 47) (.t 48)),mv_ 11 49] [0,2,4,10,11])
def Av3:Atc := .cond (.t 23)
 AvY
 Awc
def Awa:Atc := .block 1 (.seq (.ops [mv_ 21 10,mv_ 22 11,po_ 23 (.bin 3 .gtr (.t 21) (.t 22))] [0,2,4,10,11,23])
 Av3)
def Av8:Atc := .seq (.seq (.ops [mv_ 18 10,mv_ 19 11,po_ 20 (.bin 3 .neq (.t 18) (.t 19))] [0,2,4,10,11,20])
 (.cond (.t 20)
 (.skip)
 (.exit 0)))
 Awa
def Awf:Atc := .ops [mv_ 50 0,mv_ 51 2,mv_ 52 10,po_ 53 (.bin 3 .sub (.t 51) (.t 52)),mv_ 54 2,mv_ 55 10,mv_ 56 4,so_ 57 (.call 77 [.t 50,.t 53,.t 54,.t 55,.t 56])] []
def Awk:Atc := .seq (.block 0 (.loop [0,2,4,10,11] Av8))
 Awf
def Av5:Atc := .seq (.ops [mv_ 15 3,mv_ 16 2,po_ 17 (.bin 3 .sub (.t 15) (.t 16)),mv_ 11 17] [0,2,4,10,11])
 Awk
def AwF:Atc := .seq (.ops [mv_ 12 2,mv_ 13 1,po_ 14 (.bin 3 .sub (.t 12) (.t 13)),mv_ 10 14] [0,2,3,4,10])
 Av5
def AwG:List VR:=[]
theorem AzK:Tryd.f66.body.bind (trC Tryd.prog Tryd.f66.ntmps)=some (er AwF):=by kernel_rfl
theorem AzM:trR Tryd.prog Tryd.f66.results.toList=some AwG:=by kernel_rfl
def AxZ:=As8 AvY.eq_1
def Ax6:=As8 Awc.eq_1
def Ax0:=As8 Av3.eq_1
def AxV:=As8 Awa.eq_1
def Ax2:=As8 Av8.eq_1
def Ax3:=As8 Awf.eq_1
def AxY:=As8 Awk.eq_1
def Ax4:=As8 Av5.eq_1
def AyG:=As8 AwF.eq_1
theorem AyF {K:TV→Prop} {e:Env} {H:List Ob}:res AwG e H K=res [] e H K:=As9 rfl
def AtF:=(aI_ (aI_ (aI_ (aI_ @AxZ @Ax6) (aI_ @Ax0 @AxV)) (aI_ (aI_ @Ax2 @Ax3) (aI_ @AxY @Ax4))) (aI_ @AyG @AyF))
def AyX:=Awn 58 Tryd.func66 AzK AzM rfl
def Avp:Atc := .seq (.block 1 (.draw 15 [mv_ 16 0,mv_ 17 1,mv_ 18 10,po_ 19 (.bin 3 .add (.t 17) (.t 18)),mv_ 20 0,mv_ 21 2,mv_ 22 10,po_ 23 (.bin 3 .add (.t 21) (.t 22)),mv_ 24 0,mv_ 25 2,mv_ 26 10,po_ 27 (.bin 3 .add (.t 25) (.t 26)),po_ 28 (.idxA 24 (.t 24) (.t 27)),po_ 29 (.load true 24 (.t 28)),mv_ 30 0,mv_ 31 1,mv_ 32 10,po_ 33 (.bin 3 .add (.t 31) (.t 32)),po_ 34 (.idxA 24 (.t 30) (.t 33)),po_ 35 (.load true 24 (.t 34)),po_ 36 (.idxA 24 (.t 16) (.t 19)),⟨none,.s (.store 24 (.t 36) (.t 29)),none⟩,po_ 37 (.idxA 24 (.t 20) (.t 23)),⟨none,.s (.store 24 (.t 37) (.t 35)),none⟩] [0,1,2,3,10]))
 (.ops [mv_ 14 10,po_ 15 (.bin 3 .add (.t 14) (ci_ 1)),mv_ 10 15] [0,1,2,3,10])
def Avd:Atc := .seq (.seq (.ops [mv_ 11 10,mv_ 12 3,po_ 13 (.bin 3 .lss (.t 11) (.t 12))] [0,1,2,3,10,13])
 (.cond (.t 13)
 (.skip)
 (.exit 0)))
 Avp
def Avh:Atc := .block 0 (.loop [0,1,2,3,10] Avd)
def Av6:Atc := .seq (.ops [po_ 10 (.mov (ci_ 0))] [0,1,2,3,10])
 Avh
def Awh:List VR:=[]
theorem Ayk:Tryd.f77.body.bind (trC Tryd.prog Tryd.f77.ntmps)=some (er Av6):=by kernel_rfl
theorem Ayo:trR Tryd.prog Tryd.f77.results.toList=some Awh:=by kernel_rfl
def Axt:=As8 Avp.eq_1
def Axn:=As8 Avd.eq_1
def Axx:=As8 Avh.eq_1
def AxW:=As8 Av6.eq_1
theorem Ax5 {K:TV→Prop} {e:Env} {H:List Ob}:res Awh e H K=res [] e H K:=As9 rfl
def Auq:=(aI_ (aI_ (aI_ @Axt @Axn) (aI_ @Axx @AxW)) @Ax5)
def Ayb:=Awn 38 Tryd.func77 Ayk Ayo rfl
def AEP:Atc := .seq (.draw 9 [po_ 5 (.fieldA 0 0 (.t 2)),po_ 6 (.load false 1 (.t 5)),po_ 7 (.fieldA 0 0 (.t 3)),po_ 8 (.load false 1 (.t 7)),so_ 9 (.call 45 [.t 6,.t 8]),po_ 10 (.fieldA 4 23 (.t 2)),po_ 11 (.load false 1 (.t 10)),po_ 12 (.fieldA 4 23 (.t 3)),po_ 13 (.load false 1 (.t 12)),so_ 14 (.call 46 [.t 11,.t 13]),⟨some 15,.s (.bslice 1 2 (.val (.int .i64 ((0:Nat):Int))) [⟨0,.t 9⟩,⟨1,.t 14⟩]),none⟩,so_ 16 (.call 44 [.t 15]),mv_ 4 16] [4])
 (.ret)
def AJ7:Atc := .seq (.ops [so_ 2 (.box (.t 0)),so_ 3 (.box (.t 1)),po_ 4 (.mov (ci_ 0))] [2,3])
 AEP
def AKG:List VR:=[.tmp 4]
theorem AQE:Tryd.f28.body.bind (trC Tryd.prog Tryd.f28.ntmps)=some (er AJ7):=by kernel_rfl
theorem ARu:trR Tryd.prog Tryd.f28.results.toList=some AKG:=by kernel_rfl
def AJW:=As8 AEP.eq_1
def AOv:=As8 AJ7.eq_1
theorem AOO {K:TV→Prop} {e:Env} {H:List Ob}:res AKG e H K=res [.tmp 4] e H K:=As9 rfl
def ARQ:=(aI_ (aI_ @AJW @AOv) @AOO)
def APK:=Awn 17 Tryd.func28 AQE ARu rfl
def AIP:Atc := .seq (.ops [po_ 2 (.mov (.c (.slice none 0 0)))] [0])
 (.seq (.ops [mv_ 3 0,so_ 4 (.call 26 [.t 3]),mv_ 0 4] [0])
 (.seq (.ops [mv_ 5 0,so_ 6 (.call 27 [.t 5,.c (.func (.func 28) #[] #[])])] [0])
 (.seq (.ops [mv_ 7 0,mv_ 2 7] [2])
 (.ret))))
def AIQ:List VR:=[.tmp 2]
theorem APJ:Tryd.f12.body.bind (trC Tryd.prog Tryd.f12.ntmps)=some (er AIP):=by kernel_rfl
theorem APy:trR Tryd.prog Tryd.f12.results.toList=some AIQ:=by kernel_rfl
def AN9:=As8 AIP.eq_1
theorem AN1 {K:TV→Prop} {e:Env} {H:List Ob}:res AIQ e H K=res [.tmp 2] e H K:=As9 rfl
def ACx:=(aI_ @AN9 @AN1)
def APl:=Awn 8 Tryd.func12 APJ APy rfl
def Awp:Atc := .seq (.ops [po_ 2 (.mov (.c (.slice none 0 0)))] [0])
 (.seq (.seq (.ops [mv_ 3 0,so_ 4 (.eqS (.t 3) false)] [0,4])
 (.cond (.t 4)
 (.seq (.ops [po_ 2 (.mov (.c (.slice none 0 0)))] [2])
  (.ret))
 (.skip)))
 (.seq (.ops [so_ 5 (.bslice 24 0 (.agg [.val (.string (str [])),.val (.int .i64 ((0:Nat):Int)),.arr 20 1 [.val (.int .u8 ((0:Nat):Int)),.val (.int .u8 ((0:Nat):Int)),.val (.int .u8 ((0:Nat):Int)),.val (.int .u8 ((0:Nat):Int)),.val (.int .u8 ((0:Nat):Int)),.val (.int .u8 ((0:Nat):Int)),.val (.int .u8 ((0:Nat):Int)),.val (.int .u8 ((0:Nat):Int)),.val (.int .u8 ((0:Nat):Int)),.val (.int .u8 ((0:Nat):Int)),.val (.int .u8 ((0:Nat):Int)),.val (.int .u8 ((0:Nat):Int)),.val (.int .u8 ((0:Nat):Int)),.val (.int .u8 ((0:Nat):Int)),.val (.int .u8 ((0:Nat):Int)),.val (.int .u8 ((0:Nat):Int)),.val (.int .u8 ((0:Nat):Int)),.val (.int .u8 ((0:Nat):Int)),.val (.int .u8 ((0:Nat):Int)),.val (.int .u8 ((0:Nat):Int))],.val (.int .i64 ((0:Nat):Int)),.val (.int .i64 ((0:Nat):Int))]) []),mv_ 6 0,so_ 7 (.app 24 64 32 (.t 5) (.t 6)),mv_ 2 7] [2])
 (.ret)))
def Awq:List VR:=[.tmp 2]
theorem AyB:Tryd.f26.body.bind (trC Tryd.prog Tryd.f26.ntmps)=some (er Awp):=by kernel_rfl
theorem AyC:trR Tryd.prog Tryd.f26.results.toList=some Awq:=by kernel_rfl
def Ax8:=As8 Awp.eq_1
theorem Ax9 {K:TV→Prop} {e:Env} {H:List Ob}:res Awq e H K=res [.tmp 2] e H K:=As9 rfl
def AtT:=(aI_ @Ax8 @Ax9)
def Ayh:=Awn 8 Tryd.func26 AyB AyC rfl
def Azx:Atc := .seq (.seq (.ops [mv_ 11 5] [0,1,6,11])
 (.cond (.t 11)
 (.seq (.seq (.ops [mv_ 12 6] [12])
  (.cond (.t 12)
  (.seq (.ops [po_ 4 (.mov (ci_ 0))] [4])
   (.ret))
  (.skip)))
  (.seq (.ops [po_ 4 (.mov (.c (.int .i64 (-1))))] [4])
  (.ret)))
 (.skip)))
 (.seq (.seq (.ops [mv_ 13 6] [0,1,13])
 (.cond (.t 13)
 (.seq (.ops [po_ 4 (.mov (ci_ 1))] [4])
  (.ret))
 (.skip)))
 (.seq (.seq (.ops [mv_ 14 0,mv_ 15 1,po_ 16 (.bin 9 .lss (.t 14) (.t 15))] [0,1,16])
 (.cond (.t 16)
 (.seq (.ops [po_ 4 (.mov (.c (.int .i64 (-1))))] [4])
  (.ret))
 (.skip)))
 (.seq (.seq (.ops [mv_ 17 0,mv_ 18 1,po_ 19 (.bin 9 .gtr (.t 17) (.t 18))] [19])
 (.cond (.t 19)
 (.seq (.ops [po_ 4 (.mov (ci_ 1))] [4])
  (.ret))
 (.skip)))
 (.seq (.ops [po_ 4 (.mov (ci_ 0))] [4])
 (.ret)))))
def Ay1:Atc := .seq (.ops [mv_ 9 1,so_ 10 (.call 58 [.t 9]),mv_ 6 10] [0,1,5,6])
 Azx
def AyW:Atc := .seq (.ops [mv_ 7 0,so_ 8 (.call 58 [.t 7]),mv_ 5 8] [0,1,5])
 Ay1
def AA6:Atc := .seq (.ops [po_ 4 (.mov (ci_ 0))] [0,1])
 AyW
def ABa:List VR:=[.tmp 4]
theorem AId:Tryd.f45.body.bind (trC Tryd.prog Tryd.f45.ntmps)=some (er AA6):=by kernel_rfl
theorem AIn:trR Tryd.prog Tryd.f45.results.toList=some ABa:=by kernel_rfl
def ACp:=As8 Azx.eq_1
def ADb:=As8 Ay1.eq_1
def ACl:=As8 AyW.eq_1
def AGd:=As8 AA6.eq_1
theorem AGi {K:TV→Prop} {e:Env} {H:List Ob}:res ABa e H K=res [.tmp 4] e H K:=As9 rfl
def AvL:=(aI_ (aI_ (aI_ @ACp @ADb) (aI_ @ACl @AGd)) @AGi)
def AGI:=Awn 20 Tryd.func45 AId AIn rfl
def AB5:Atc := .seq (.ops [po_ 2 (.mov (.c (.bool false)))] [0])
 (.seq (.ops [mv_ 3 0,mv_ 4 0,po_ 5 (.bin 9 .neq (.t 3) (.t 4)),mv_ 2 5] [2])
 (.ret))
def AB6:List VR:=[.tmp 2]
theorem AKv:Tryd.f58.body.bind (trC Tryd.prog Tryd.f58.ntmps)=some (er AB5):=by kernel_rfl
theorem AKt:trR Tryd.prog Tryd.f58.results.toList=some AB6:=by kernel_rfl
def AIa:=As8 AB5.eq_1
theorem AIb {K:TV→Prop} {e:Env} {H:List Ob}:res AB6 e H K=res [.tmp 2] e H K:=As9 rfl
def AK0:=(aI_ @AIa @AIb)
def AJr:=Awn 6 Tryd.func58 AKv AKt rfl
def AHz:Atc := .seq (.ops [po_ 9 (.bin 3 .lss (.t 8) (.t 7))] [3,6,7,8,9])
 (.seq (.cond (.t 9)
 (.skip)
 (.exit 0))
 (.seq (.block 1 (.seq (.ops [po_ 10 (.idxA 1 (.t 6) (.t 8)),po_ 11 (.load false 1 (.t 10)),mv_ 5 11] [3,5,6,7,8])
 (.seq (.ops [mv_ 12 5,mv_ 13 3,po_ 14 (.bin 3 .neq (.t 12) (.t 13))] [3,5,6,7,8,14])
 (.cond (.t 14)
 (.seq (.ops [mv_ 15 5,mv_ 2 15] [2])
  (.ret))
 (.skip)))))
 (.ops [po_ 16 (.bin 3 .add (.t 8) (ci_ 1)),mv_ 8 16] [3,6,7,8])))
def AHl:Atc := .seq (.ops [mv_ 17 3,mv_ 2 17] [2])
 (.ret)
def AGE:Atc := .seq (.seq (.ops [mv_ 6 0,po_ 7 (.lenV (.t 6)),po_ 8 (.mov (ci_ 0))] [3,6,7,8])
 (.block 0 (.loop [3,6,7,8] AHz)))
 AHl
def AGM:Atc := .seq (.ops [po_ 3 (.mov (ci_ 0))] [0,3])
 AGE
def ANo:Atc := .seq (.ops [po_ 2 (.mov (ci_ 0))] [0])
 AGM
def ANj:List VR:=[.tmp 2]
theorem ARY:Tryd.f44.body.bind (trC Tryd.prog Tryd.f44.ntmps)=some (er ANo):=by kernel_rfl
theorem ARV:trR Tryd.prog Tryd.f44.results.toList=some ANj:=by kernel_rfl
def AMI:=As8 AHz.eq_1
def AMB:=As8 AHl.eq_1
def AMA:=As8 AGE.eq_1
def ALW:=As8 AGM.eq_1
def APN:=As8 ANo.eq_1
theorem APx {K:TV→Prop} {e:Env} {H:List Ob}:res ANj e H K=res [.tmp 2] e H K:=As9 rfl
def Ayy:=(aI_ (aI_ (aI_ @AMI @AMB) (aI_ @AMA @ALW)) (aI_ @APN @APx))
def AQC:=Awn 18 Tryd.func44 ARY ARV rfl
def ABd:Atc := .seq (.seq (.ops [mv_ 11 5] [0,1,6,11])
 (.cond (.t 11)
 (.seq (.seq (.ops [mv_ 12 6] [12])
  (.cond (.t 12)
  (.seq (.ops [po_ 4 (.mov (ci_ 0))] [4])
   (.ret))
  (.skip)))
  (.seq (.ops [po_ 4 (.mov (.c (.int .i64 (-1))))] [4])
  (.ret)))
 (.skip)))
 (.seq (.seq (.ops [mv_ 13 6] [0,1,13])
 (.cond (.t 13)
 (.seq (.ops [po_ 4 (.mov (ci_ 1))] [4])
  (.ret))
 (.skip)))
 (.seq (.seq (.ops [mv_ 14 0,mv_ 15 1,po_ 16 (.bin 3 .lss (.t 14) (.t 15))] [0,1,16])
 (.cond (.t 16)
 (.seq (.ops [po_ 4 (.mov (.c (.int .i64 (-1))))] [4])
  (.ret))
 (.skip)))
 (.seq (.seq (.ops [mv_ 17 0,mv_ 18 1,po_ 19 (.bin 3 .gtr (.t 17) (.t 18))] [19])
 (.cond (.t 19)
 (.seq (.ops [po_ 4 (.mov (ci_ 1))] [4])
  (.ret))
 (.skip)))
 (.seq (.ops [po_ 4 (.mov (ci_ 0))] [4])
 (.ret)))))
def AA8:Atc := .seq (.ops [mv_ 9 1,so_ 10 (.call 59 [.t 9]),mv_ 6 10] [0,1,5,6])
 ABd
def ABc:Atc := .seq (.ops [mv_ 7 0,so_ 8 (.call 59 [.t 7]),mv_ 5 8] [0,1,5])
 AA8
def ADY:Atc := .seq (.ops [po_ 4 (.mov (ci_ 0))] [0,1])
 ABc
def ADH:List VR:=[.tmp 4]
theorem AMH:Tryd.f46.body.bind (trC Tryd.prog Tryd.f46.ntmps)=some (er ADY):=by kernel_rfl
theorem AL7:trR Tryd.prog Tryd.f46.results.toList=some ADH:=by kernel_rfl
def AGh:=As8 ABd.eq_1
def AGf:=As8 AA8.eq_1
def AGe:=As8 ABc.eq_1
def AJA:=As8 ADY.eq_1
theorem AJK {K:TV→Prop} {e:Env} {H:List Ob}:res ADH e H K=res [.tmp 4] e H K:=As9 rfl
def AwN:=(aI_ (aI_ (aI_ @AGh @AGf) (aI_ @AGe @AJA)) @AJK)
def AJX:=Awn 20 Tryd.func46 AMH AL7 rfl
def AG6:Atc := .seq (.ops [po_ 2 (.mov (.c (.bool false)))] [0])
 (.seq (.ops [mv_ 3 0,mv_ 4 0,po_ 5 (.bin 3 .neq (.t 3) (.t 4)),mv_ 2 5] [2])
 (.ret))
def AGm:List VR:=[.tmp 2]
theorem AO8:Tryd.f59.body.bind (trC Tryd.prog Tryd.f59.ntmps)=some (er AG6):=by kernel_rfl
theorem AOx:trR Tryd.prog Tryd.f59.results.toList=some AGm:=by kernel_rfl
def AMY:=As8 AG6.eq_1
theorem AMr {K:TV→Prop} {e:Env} {H:List Ob}:res AGm e H K=res [.tmp 2] e H K:=As9 rfl
def AOQ:=(aI_ @AMY @AMr)
def ANN:=Awn 6 Tryd.func59 AO8 AOx rfl
def AFB:Atc := .seq (.seq (.draw 35 [mv_ 13 5,mv_ 14 3,po_ 15 (.lenV (.t 14)),po_ 16 (.bin 3 .lss (.t 13) (.t 15)),mv_ 17 16,⟨some 18,.p (.mov (.t 3)),some ⟨17,true⟩⟩,⟨some 19,.p (.mov (.t 5)),some ⟨17,true⟩⟩,⟨some 20,.p (.idxA 24 (.t 18) (.t 19)),some ⟨17,true⟩⟩,⟨some 21,.p (.fieldA 0 0 (.t 20)),some ⟨17,true⟩⟩,⟨some 22,.p (.load false 1 (.t 21)),some ⟨17,true⟩⟩,⟨some 23,.p (.mov (.t 0)),some ⟨17,true⟩⟩,⟨some 24,.p (.mov (.t 4)),some ⟨17,true⟩⟩,⟨some 25,.p (.idxA 24 (.t 23) (.t 24)),some ⟨17,true⟩⟩,⟨some 26,.p (.fieldA 0 0 (.t 25)),some ⟨17,true⟩⟩,⟨some 27,.p (.load false 1 (.t 26)),some ⟨17,true⟩⟩,⟨some 28,.p (.bin 9 .lss (.t 22) (.t 27)),some ⟨17,true⟩⟩,⟨some 29,.p (.mov (.t 28)),some ⟨17,true⟩⟩,⟨some 30,.p (.mov (.t 3)),some ⟨29,false⟩⟩,⟨some 31,.p (.mov (.t 5)),some ⟨29,false⟩⟩,⟨some 32,.p (.idxA 24 (.t 30) (.t 31)),some ⟨29,false⟩⟩,⟨some 33,.p (.fieldA 0 0 (.t 32)),some ⟨29,false⟩⟩,⟨some 34,.p (.load false 1 (.t 33)),some ⟨29,false⟩⟩,⟨some 35,.p (.mov (.t 0)),some ⟨29,false⟩⟩,⟨some 36,.p (.mov (.t 4)),some ⟨29,false⟩⟩,⟨some 37,.p (.idxA 24 (.t 35) (.t 36)),some ⟨29,false⟩⟩,⟨some 38,.p (.fieldA 0 0 (.t 37)),some ⟨29,false⟩⟩,⟨some 39,.p (.load false 1 (.t 38)),some ⟨29,false⟩⟩,⟨some 40,.p (.bin 9 .eql (.t 34) (.t 39)),some ⟨29,false⟩⟩,⟨some 41,.p (.mov (.t 40)),some ⟨29,false⟩⟩,⟨some 42,.p (.mov (.t 3)),some ⟨41,true⟩⟩,⟨some 43,.p (.mov (.t 5)),some ⟨41,true⟩⟩,⟨some 44,.p (.idxA 24 (.t 42) (.t 43)),some ⟨41,true⟩⟩,⟨some 45,.p (.fieldA 4 23 (.t 44)),some ⟨41,true⟩⟩,⟨some 46,.p (.load false 1 (.t 45)),some ⟨41,true⟩⟩,⟨some 47,.p (.mov (.t 0)),some ⟨41,true⟩⟩,⟨some 48,.p (.mov (.t 4)),some ⟨41,true⟩⟩,⟨some 49,.p (.idxA 24 (.t 47) (.t 48)),some ⟨41,true⟩⟩,⟨some 50,.p (.fieldA 4 23 (.t 49)),some ⟨41,true⟩⟩,⟨some 51,.p (.load false 1 (.t 50)),some ⟨41,true⟩⟩,⟨some 52,.p (.bin 3 .leq (.t 46) (.t 51)),some ⟨41,true⟩⟩,⟨some 53,.p (.pick (.t 41) (.t 52) (.c (.bool false))),some ⟨29,false⟩⟩,⟨some 54,.p (.pick (.t 29) (.c (.bool true)) (.t 53)),some ⟨17,true⟩⟩,po_ 55 (.pick (.t 17) (.t 54) (.c (.bool false)))] [0,3,4,5,55])
 (.cond (.t 55)
 (.skip)
 (.exit 2)))
 (.block 3 (.ops [mv_ 56 5,po_ 57 (.bin 3 .add (.t 56) (ci_ 1)),mv_ 5 57] [0,3,4,5]))
def AFb:Atc := .seq (.ops [mv_ 63 6,mv_ 64 0,mv_ 65 4,po_ 66 (.idxA 24 (.t 64) (.t 65)),po_ 67 (.load true 24 (.t 66)),⟨some 68,.s (.bslice 24 1 (.agg [.val (.string (str [])),.val (.int .i64 ((0:Nat):Int)),.arr 20 1 [.val (.int .u8 ((0:Nat):Int)),.val (.int .u8 ((0:Nat):Int)),.val (.int .u8 ((0:Nat):Int)),.val (.int .u8 ((0:Nat):Int)),.val (.int .u8 ((0:Nat):Int)),.val (.int .u8 ((0:Nat):Int)),.val (.int .u8 ((0:Nat):Int)),.val (.int .u8 ((0:Nat):Int)),.val (.int .u8 ((0:Nat):Int)),.val (.int .u8 ((0:Nat):Int)),.val (.int .u8 ((0:Nat):Int)),.val (.int .u8 ((0:Nat):Int)),.val (.int .u8 ((0:Nat):Int)),.val (.int .u8 ((0:Nat):Int)),.val (.int .u8 ((0:Nat):Int)),.val (.int .u8 ((0:Nat):Int)),.val (.int .u8 ((0:Nat):Int)),.val (.int .u8 ((0:Nat):Int)),.val (.int .u8 ((0:Nat):Int)),.val (.int .u8 ((0:Nat):Int))],.val (.int .i64 ((0:Nat):Int)),.val (.int .i64 ((0:Nat):Int))]) [⟨0,.t 67⟩]),none⟩,so_ 69 (.app 24 64 48 (.t 63) (.t 68)),mv_ 6 69] [0,3,4,5,6])
 (.ops [mv_ 70 6,mv_ 71 3,mv_ 72 5,po_ 73 (.slV 24 (.t 71) (some (.t 72)) none),so_ 74 (.app 24 64 48 (.t 70) (.t 73)),mv_ 3 74] [0,3,4])
def AF3:Atc := .seq (.ops [mv_ 58 6,mv_ 59 3,mv_ 60 5,po_ 61 (.slV 24 (.t 59) none (some (.t 60))),so_ 62 (.app 24 64 48 (.t 58) (.t 61)),mv_ 6 62] [0,3,4,5,6])
 AFb
def Ayd:Atc := .seq (.ops [po_ 6 (.mov (.c (.slice none 0 0)))] [0,3,4,5,6])
 AF3
def AEM:Atc := .seq (.block 2 (.own 3 24 (.loop [0,3,4,5] AFB)))
 Ayd
def AA5:Atc := .ops [mv_ 11 4,po_ 12 (.bin 3 .add (.t 11) (ci_ 1)),mv_ 4 12] [0,3,4]
def AFU:Atc := .seq (.block 1 (.seq (.ops [po_ 5 (.mov (ci_ 0))] [0,3,4,5])
 AEM))
 AA5
def AFK:Atc := .seq (.seq (.ops [mv_ 7 4,mv_ 8 0,po_ 9 (.lenV (.t 8)),po_ 10 (.bin 3 .lss (.t 7) (.t 9))] [0,3,4,10])
 (.cond (.t 10)
 (.skip)
 (.exit 0)))
 AFU
def AFZ:Atc := .block 0 (.own 3 24 (.loop [0,3,4] AFK))
def AAp:Atc := .seq (.ops [mv_ 75 3,mv_ 2 75] [2])
 (.ret)
def AD7:Atc := .seq (.seq (.ops [po_ 4 (.mov (ci_ 0))] [0,3,4])
 AFZ)
 AAp
def ADP:Atc := .seq (.ops [po_ 3 (.mov (.c (.slice none 0 0)))] [0,3])
 AD7
def AKg:Atc := .seq (.ops [po_ 2 (.mov (.c (.slice none 0 0)))] [0])
 ADP
def AEk:List VR:=[.tmp 2]
theorem ARk:Tryd.f15.body.bind (trC Tryd.prog Tryd.f15.ntmps)=some (er AKg):=by kernel_rfl
theorem AQ8:trR Tryd.prog Tryd.f15.results.toList=some AEk:=by kernel_rfl
def Aww:=As8 AFB.eq_1
def AJ6:=As8 AFb.eq_1
def ALt:=As8 AF3.eq_1
def ALd:=As8 Ayd.eq_1
def AKA:=As8 AEM.eq_1
def AK7:=As8 AA5.eq_1
def ALu:=As8 AFU.eq_1
def ABT:=As8 AFK.eq_1
def ALj:=As8 AFZ.eq_1
def AJF:=As8 AAp.eq_1
def AJl:=As8 AD7.eq_1
def AJe:=As8 ADP.eq_1
def AOw:=As8 AKg.eq_1
theorem AOm {K:TV→Prop} {e:Env} {H:List Ob}:res AEk e H K=res [.tmp 2] e H K:=As9 rfl
def APG:=Awn 76 Tryd.func15 ARk AQ8 rfl
end
section
open Go.RowKit
section
variable [AtQ] {P:Program} {PP:Value→List Ob→Prop} {e:Env} {H:List Ob} {r:List VO} {Ss:SsT}
end
theorem AHQ (l:List UInt8):(str l).toList=l:=by rw [Lib.toList_data]; rfl
theorem BcN {t:TypeId} {a b:List UInt8}:AyH t .lss (.string (str a)) (.string (str b))=some (.bool (Op.bytesLess a b)):=by
 rw [AyH,binOp_string_lss,AHQ,AHQ]; rfl
end
section
open Go.RowKit
variable [AtQ]
def enJ (e:EnJ):TV := .agg [ts e.path,i64 e.mode,.arr 20 1 (e.id.map by8),i64 e.size,i64 e.stage]
theorem Axc (e:EnJ):enJ e = .agg [ts e.path,i64 e.mode,.arr 20 1 (e.id.map by8),i64 e.size,i64 e.stage]:=by unfold enJ; rfl
theorem Axb (e:EnJ):Atq (enJ e)=24:=by rw [Axc]; rfl
theorem Azv (e:EnJ):AMC (enJ e)=true:=by rw [Axc]; rfl
theorem AGt (e:EnJ):AuM (enJ e)=false:=by rw [Axc]; rfl
theorem AEt (e:EnJ):lays (enJ e)=true:=by rw [Axc]; rfl
theorem AAw (e:EnJ):AuQ (enJ e)=true:=by
 rw [Axc]
 simp [AuQ,Aud]
theorem APa {t:TypeId} {a b:List UInt8}:AyH t .lss (.string (str a)) (.string (str b))=some (.bool (decide (ltB a b))):=by rw [BcN,AYB]; rfl
theorem A40 {t:TypeId} {a b:List UInt8}:AyH t .gtr (.string (str a)) (.string (str b))=some (.bool (decide (ltB b a))):=by
 have e1:AyH t .gtr (.string (str a)) (.string (str b))=some (.bool !(Op.bytesLess a b || a == b)):=by
  rw [AyH,binOp_string_gtr,AHQ,AHQ]; rfl
 rw [e1,AYB]
 congr 2
 by_cases h:ltB b a
 ·have h1:¬ a<b:=fun k=>Axg _ (AKR h k)
  have h2:¬ a=b:=fun k=>by rw [k] at h; exact Axg _ h
  simp [h,h1,h2]
 ·by_cases h1:a<b
  ·simp [h,h1]
  ·have h2:a=b:=AMj h1 h
   subst h2
   simp [h]
def A7N (a b:Int):Int:=if a<b then -1 else if b<a then 1 else 0
def A6T (a b:List UInt8):Int:=if ltB a b then -1 else if ltB b a then 1 else 0
def orI (x y:Int):Int:=if x=0 then y else x
def A7A (x y:EnJ):Int:=orI (A6T x.path y.path) (A7N x.stage y.stage)
theorem AHw (x y:EnJ):(A7A x y<0)↔ltJ x y=true:=by
 rw [AOq]
 unfold A7A orI A6T A7N
 by_cases h:ltB x.path y.path
 ·simp [h]
 ·by_cases h2:ltB y.path x.path
  ·have h3:¬ x.path=y.path:=fun k=>by rw [k] at h2; exact Axg _ h2
   simp [h,h2,h3]
  ·have h3:x.path=y.path:=AMj h h2
   rw [if_neg h,if_neg h2,if_pos rfl]
   by_cases h4:x.stage<y.stage
   ·simp [h4,h3]
   ·rw [if_neg h4]
    have:¬ ((if y.stage<x.stage then (1:Int) else 0)<0):=by split<;>omega
    simp [this,h,h4]
theorem Bcw (a b:List UInt8):Auk Tryd.prog 45 [ts a,ts b] (fun r=>r=i64 (A6T a b)):=by
 refine Atj.toPureV (AGI (by simp) ?_)
 have nan:∀ a:List UInt8,Auk Tryd.prog 58 [ts a] (fun r=>r=tb false):=fun a=>by
  refine Atj.toPureV (AJr (by simp) ?_)
  simp -dsimp (disch:=first | assumption | omega) only [↓Atf,Atb,Atd,Ate,eq_self,Nat.reduceEqDiff,↓reduceIte,reduceCtorEq,↓AK0]
 simp -dsimp (disch:=first | assumption | omega) only [↓Atf,Atb,Atd,Ate,eq_self,Nat.reduceEqDiff,↓reduceIte,Nat.reduceAdd,reduceCtorEq,↓AvL]
 refine (nan a).calls rfl ?_
 rintro _ rfl
 simp -dsimp (disch:=first | assumption | omega) only [↓Atf,Atb,Atd,Ate,eq_self,Nat.reduceEqDiff,↓reduceIte,reduceCtorEq,↓AvL]
 refine (nan b).calls rfl ?_
 rintro _ rfl
 unfold A6T
 by_cases h:ltB a b
 ·rw [if_pos h]
  simp -dsimp (disch:=first | assumption | omega) only [↓Atf,Atb,Atd,Ate,eq_self,Nat.reduceEqDiff,↓reduceIte,reduceCtorEq,↓AvL,APa,h]
 ·rw [if_neg h]
  by_cases h2:ltB b a
  ·rw [if_pos h2]
   simp -dsimp (disch:=first | assumption | omega) only [↓Atf,Atb,Atd,Ate,eq_self,Nat.reduceEqDiff,↓reduceIte,reduceCtorEq,↓AvL,APa,A40,h,h2]
   rfl
  ·rw [if_neg h2]
   simp -dsimp (disch:=first | assumption | omega) only [↓Atf,Atb,Atd,Ate,eq_self,Nat.reduceEqDiff,↓reduceIte,reduceCtorEq,↓AvL,APa,A40,h,h2]
   rfl
theorem BbD (a b:Int):Auk Tryd.prog 46 [i64 a,i64 b] (fun r=>r=i64 (A7N a b)):=by
 refine Atj.toPureV (AJX (by simp) ?_)
 have nan:∀ a:Int,Auk Tryd.prog 59 [i64 a] (fun r=>r=tb false):=fun a=>by
  refine Atj.toPureV (ANN (by simp) ?_)
  simp -dsimp (disch:=first | assumption | omega) only [↓Atf,Atb,Atd,Ate,eq_self,Nat.reduceEqDiff,↓reduceIte,reduceCtorEq,↓AOQ]
 simp -dsimp (disch:=first | assumption | omega) only [↓Atf,Atb,Atd,Ate,eq_self,Nat.reduceEqDiff,↓reduceIte,Nat.reduceAdd,reduceCtorEq,↓AwN]
 refine (nan a).calls rfl ?_
 rintro _ rfl
 simp -dsimp (disch:=first | assumption | omega) only [↓Atf,Atb,Atd,Ate,eq_self,Nat.reduceEqDiff,↓reduceIte,reduceCtorEq,↓AwN]
 refine (nan b).calls rfl ?_
 rintro _ rfl
 unfold A7N
 by_cases h:a<b
 ·rw [if_pos h]
  simp -dsimp (disch:=first | assumption | omega) only [↓Atf,Atb,Atd,Ate,eq_self,Nat.reduceEqDiff,↓reduceIte,reduceCtorEq,↓AwN]
 ·rw [if_neg h]
  by_cases h2:b<a
  ·rw [if_pos h2]
   simp -dsimp (disch:=first | assumption | omega) only [↓Atf,Atb,Atd,Ate,eq_self,Nat.reduceEqDiff,↓reduceIte,reduceCtorEq,↓AwN]
   rfl
  ·rw [if_neg h2]
   simp -dsimp (disch:=first | assumption | omega) only [↓Atf,Atb,Atd,Ate,eq_self,Nat.reduceEqDiff,↓reduceIte,reduceCtorEq,↓AwN]
   rfl
theorem orV (x y:Int):Auk Tryd.prog 44 [.sl 1 [i64 x,i64 y]] (fun r=>r=i64 (orI x y)):=by
 refine Atj.toPureV (AQC (by simp) ?_)
 simp -dsimp (disch:=first | assumption | omega) only [↓Atf,Atb,Atd,Ate,eq_self,Nat.reduceEqDiff,↓reduceIte,Nat.reduceAdd,reduceCtorEq,↓Ayy]
 refine At5 (fun q e H=>∃ i:Nat,q=2 - i∧i≤2∧(1≤i→x=0)∧(2≤i→y=0)∧e=[(3,i64 ((0:Nat):Int)),(6,.sl 1 [i64 x,i64 y]),(7,i64 ((2:Nat):Int)),(8,i64 ((i:Nat):Int))]∧H=[]) 2 ?_ ?_
 ·exact ⟨0,rfl,by omega,by omega,by omega,rfl,rfl⟩
 ·rintro q e H ⟨i,rfl,hi,h1,h2,rfl,rfl⟩
  rcases (show i=0∨i=1∨i=2 by omega) with rfl | rfl | rfl
  ·by_cases hx:x=0
   ·simp -dsimp (disch:=first | assumption | omega) only [↓Atf,Atb,Atd,Ate,eq_self,Nat.reduceLT,Nat.reduceEqDiff,↓reduceIte,↓Ayy]
    exact Atk 1 (by omega) (by simp) ⟨1,rfl,by omega,fun _=>hx,by omega,by simp [forget,get],rfl⟩
   ·simp -dsimp (disch:=first | assumption | omega) only [↓Atf,Atb,Atd,Ate,eq_self,Nat.reduceLT,Nat.reduceEqDiff,↓reduceIte,↓Ayy]
    unfold orI; rw [if_neg hx]
  ·by_cases hy:y=0
   ·simp -dsimp (disch:=first | assumption | omega) only [↓Atf,Atb,Atd,Ate,eq_self,Nat.reduceLT,Nat.reduceEqDiff,Nat.reduceSub,↓reduceIte,Nat.reduceAdd,↓Ayy]
    exact Atk 0 (by omega) (by simp) ⟨2,rfl,by omega,fun _=>h1 (by omega),fun _=>hy,by simp [forget,get],rfl⟩
   ·simp -dsimp (disch:=first | assumption | omega) only [↓Atf,Atb,Atd,Ate,eq_self,Nat.reduceLT,Nat.reduceEqDiff,↓reduceIte,↓Ayy]
    unfold orI; rw [if_pos (h1 (by omega))]
  ·simp -dsimp (disch:=first | assumption | omega) only [↓Atf,Atb,Atd,Ate,eq_self,Nat.reduceLT,Nat.reduceEqDiff,↓reduceIte,↓Ayy]
   unfold orI; rw [if_pos (h1 (by omega)),h2 (by omega)]; rfl
theorem A6X {z a b:TV}:((List.replicate 2 z).set 0 a).set 1 b=[a,b]:=by simp [List.replicate_succ]
theorem AUL (x y:EnJ):Auk Tryd.prog 28 [enJ x,enJ y] (fun r=>r=i64 (A7A x y)):=by
 refine Atj.toPureV (APK (by simp) ?_)
 rw [Axc,Axc]
 simp -dsimp (disch:=first | assumption | omega | (simp only [Ata];try omega)) only [↓Atf,Atb,Atd,Ate,eq_self,Nat.reduceEqDiff,↓reduceIte,Nat.reduceAdd,reduceCtorEq,↓ARQ]
 refine ⟨i64 (A6T x.path y.path),(Bcw _ _).calls rfl fun r hr=>⟨hr,rfl⟩,?_⟩
 simp -dsimp (disch:=first | assumption | omega | (simp only [Ata];try omega)) only [↓Atf,Atb,Atd,Ate,eq_self,Nat.reduceEqDiff,↓reduceIte,Nat.reduceAdd]
 refine (BbD x.stage y.stage).calls rfl fun r hr => ?_
 subst hr
 simp -dsimp (disch:=first | assumption | omega | (simp only [Ata];try omega)) only [↓Atf,Atb,Atd,Ate,eq_self,Nat.reduceEqDiff,↓reduceIte,Nat.reduceAdd,Nat.reduceLeDiff]
 refine (orV (A6T x.path y.path) (A7N x.stage y.stage)).lends (args':=[.sl 1 [i64 (A6T x.path y.path),i64 (A7N x.stage y.stage)]]) ?_ fun r hr=>⟨?_,?_⟩
 ·simp -dsimp (disch:=first | assumption | omega | (simp only [Ata];try omega)) only [Atd,Ate,eq_self,↓reduceIte,Nat.reduceAdd,Nat.reduceLeDiff,A6X]
 ·subst hr; rfl
 ·subst hr
  simp -dsimp (disch:=first | assumption | omega | (simp only [Ata];try omega)) only [↓Atf,Atb,Atd,Ate,eq_self,↓reduceIte]
  rfl
end
section
variable {α:Type} {lt:α→α→Bool}
def AtG (l:List α) (a b:Nat):List α:=(l.drop a).take (b - a)
theorem Awy {l:List α} {a b:Nat} (h:b≤l.length):(AtG l a b).length=b - a:=by unfold AtG; simp; omega
theorem AHr {l:List α} {a b:Nat} (h:a≤b):l=l.take a++AtG l a b++l.drop b:=by
 unfold AtG
 have:l.drop b=(l.drop a).drop (b - a):=by rw [List.drop_drop]; congr 1; omega
 rw [this,List.append_assoc,List.take_append_drop,List.take_append_drop]
theorem AUz {l:List α} {i j a:Nat} (h:j≤a):AtG l i j=AtG (l.take a) i j:=by
 unfold AtG
 rw [List.drop_take,List.take_take]
 congr 1; omega
theorem ATc {l:List α} {i j b:Nat} (h:b≤i):AtG l i j=AtG (l.drop b) (i - b) (j - b):=by
 unfold AtG
 rw [List.drop_drop,show b+(i - b)=i by omega,show j - b - (i - b)=j - i by omega]
theorem Au0 {l:List α} {a m b:Nat} (h1:a≤m) (h2:m≤b):AtG l a b=AtG l a m++AtG l m b:=by
 unfold AtG
 have e:l.drop m=(l.drop a).drop (m - a):=by rw [List.drop_drop]; congr 1; omega
 rw [e,show b - a=(m - a)+(b - m) by omega,List.take_add]
theorem A0Q {l:List α} {n:Nat} (h:l.length≤n):AtG l 0 n=l:=by unfold AtG; rw [List.drop_zero,Nat.sub_zero,List.take_of_length_le h]
theorem APb {l:List α} {a b k:Nat} (h:a+k<b):(AtG l a b)[k]?=l[a+k]?:=by
 unfold AtG
 rw [List.getElem?_take_of_lt (by omega),List.getElem?_drop]
theorem AHU {l:List α} {a:Nat} {x:α} (h:l[a]?=some x):AtG l a (a+1)=[x]:=by
 obtain ⟨h1,rfl⟩:=List.getElem?_eq_some_iff.1 h
 unfold AtG
 rw [List.drop_eq_getElem_cons h1,show a+1 - a=1 by omega]
 rfl
structure Sg (lt:α→α→Bool) (l l':List α) (a b:Nat):Prop where
 len:l'.length=l.length
 pre:l'.take a=l.take a
 post:l'.drop b=l.drop b
 srt:ABU lt (AtG l' a b)
 stb:AzJ lt (AtG l' a b) (AtG l a b)
theorem Sg.before {l l':List α} {a b i j:Nat} (h:Sg lt l l' a b) (hj:j≤a):AtG l' i j=AtG l i j:=by rw [AUz hj,h.pre,←AUz hj]
theorem Sg.after {l l':List α} {a b i j:Nat} (h:Sg lt l l' a b) (hi:b≤i):AtG l' i j=AtG l i j:=by rw [ATc hi,h.post,←ATc hi]
theorem Sg.whole {l l':List α} {a b:Nat} (h:Sg lt l l' a b) (hab:a≤b):AzJ lt l' l:=by
 rw [AHr (l:=l') hab,AHr (l:=l) hab,h.pre,h.post]
 exact ((AzJ.refl _).append h.stb).append (AzJ.refl _)
theorem Sg.of {P C C' Q:List α} {a b:Nat} (ha:P.length=a) (hb:a+C.length=b) (hs:ABU lt C') (ht:AzJ lt C' C) (hl:C'.length=C.length):Sg lt (P++C++Q) (P++C'++Q) a b:=by
 have e:∀ D:List α,D.length=C.length→AtG (P++D++Q) a b=D:=fun D hD=>by
  unfold AtG
  rw [List.append_assoc,←ha,List.drop_left,show b - P.length=D.length by omega,List.take_left]
 refine ⟨by simp [hl],?_,?_,by rw [e _ hl]; exact hs,by rw [e _ hl,e _ rfl]; exact ht⟩
 ·rw [List.append_assoc,List.append_assoc,←ha,List.take_left,List.take_left]
 ·have d:∀ D:List α,D.length=C.length→(P++D++Q).drop b=Q:=fun D hD=>by
   rw [show b=(P++D).length by simp; omega,List.drop_left]
  rw [d _ hl,d _ rfl]
theorem Sg.none {l:List α} {a b:Nat} (h:ABU lt (AtG l a b)):Sg lt l l a b:=⟨rfl,rfl,rfl,h,AzJ.refl _⟩
theorem Sg.comp {l l1 l2:List α} {a i b:Nat} (h1:Sg lt l l1 a i) (h2:Sg lt l1 l2 a b) (hai:a≤i) (hib:i≤b):Sg lt l l2 a b:=by
 refine ⟨h2.len.trans h1.len,h2.pre.trans h1.pre,?_,h2.srt,?_⟩
 ·have:∀ m:List α,m.drop b=(m.drop i).drop (b - i):=fun m=>by rw [List.drop_drop]; congr 1; omega
  rw [h2.post,this l1,h1.post,←this l]
 ·refine h2.stb.trans ?_
  rw [Au0 (l:=l1) hai hib,Au0 (l:=l) hai hib,h1.after (Nat.le_refl i)]
  exact h1.stb.append (AzJ.refl _)
theorem AYN:ABU lt []:=List.Pairwise.nil
theorem AXr {l:List α} {a b:Nat} (h:l.length≤b):AtG l a b=AtG l a l.length:=by
 unfold AtG
 rw [List.take_of_length_le (by simp; omega),List.take_of_length_le (by simp)]
theorem AYV (hw:SW lt) {A B:List α} {x:α} (hs:ABU lt (A++B)) (hB:∀ y∈B,lt x y=true) (hA:∀ y∈A.getLast?,lt x y=false):ABU lt (A++x::B)∧AzJ lt (A++x::B) (A++B++[x]):=by
 have hp:=List.pairwise_append.1 hs
 have hAll:∀ y∈A,lt x y=false:=fun y hy=>by
  obtain ⟨l,z,rfl⟩:∃ l z,A=l++[z]:=⟨_,_,(List.dropLast_concat_getLast (List.ne_nil_of_mem hy)).symm⟩
  have hz:=hA z (by simp)
  rcases List.mem_append.1 hy with h | h
  ·exact hw.ntr hz ((List.pairwise_append.1 hp.1).2.2 y h z (by simp))
  ·rw [List.mem_singleton] at h; subst h; exact hz
 constructor
 ·refine List.pairwise_append.2 ⟨hp.1,List.pairwise_cons.2 ⟨fun y hy=>hw.asym (hB y hy),hp.2.1⟩,fun y hy z hz => ?_⟩
  rcases List.mem_cons.1 hz with rfl | hz
  ·exact hAll y hy
  ·exact hp.2.2 y hy z hz
 ·rw [List.append_assoc]
  refine (AzJ.refl A).append ?_
  exact AzJ.swap hw (a:=B) (b:=[x]) fun y hy z hz=>by rw [List.mem_singleton] at hz; subst hz; exact hB y hy
theorem A86 (hw:SW lt) {B1 B2:List α} {x:α} (hs:ABU lt (B1++B2)) (h1:∀ y∈B1,lt y x=true) (h2:∀ y∈B2,lt y x=false):ABU lt (B1++x::B2)∧AzJ lt (B1++x::B2) (x::(B1++B2)):=by
 have hp:=List.pairwise_append.1 hs
 constructor
 ·refine List.pairwise_append.2 ⟨hp.1,List.pairwise_cons.2 ⟨fun y hy=>h2 y hy,hp.2.1⟩,fun y hy z hz => ?_⟩
  rcases List.mem_cons.1 hz with rfl | hz
  ·exact hw.asym (h1 y hy)
  ·exact hp.2.2 y hy z hz
 ·have e1:B1++x::B2=(B1++[x])++B2:=by simp
  have e2:x::(B1++B2)=([x]++B1)++B2:=by simp
  rw [e1,e2]
  refine AzJ.append ?_ (AzJ.refl B2)
  exact AzJ.swap hw (a:=[x]) (b:=B1) fun y hy z hz=>by rw [List.mem_singleton] at hy; subst hy; exact h1 z hz
theorem AUP (hw:SW lt) {l:List α} {m b u t:Nat} {y z:α} (hs:ABU lt (AtG l m b)) (h1:m≤u) (h2:u≤t) (h3:t<b) (hz:l[u]?=some z) (hy:l[t]?=some y):lt y z=false:=by
 rcases Nat.lt_or_eq_of_le h2 with h | rfl
 ·have e1:(AtG l m b)[u - m]?=some z:=by rw [APb (by omega),show m+(u - m)=u by omega]; exact hz
  have e2:(AtG l m b)[t - m]?=some y:=by rw [APb (by omega),show m+(t - m)=t by omega]; exact hy
  obtain ⟨q1,rfl⟩:=List.getElem?_eq_some_iff.1 e1
  obtain ⟨q2,rfl⟩:=List.getElem?_eq_some_iff.1 e2
  exact List.pairwise_iff_getElem.1 hs _ _ q1 q2 (by omega)
 ·rw [hz] at hy; cases hy; exact hw.refl _
theorem AMu {A B:List α} {x y:α} {n:Nat} (h:A.length=n):(A++x::B).set n y=A++y::B:=by
 subst h
 rw [List.set_append_right _ _ (Nat.le_refl _),Nat.sub_self]; rfl
theorem A2u {A B:List α} {x y:α} {n:Nat} (h:A.length=n):((A++x::y::B).set n y).set (n+1) x=A++y::x::B:=by
 rw [AMu h,show A++y::y::B=(A++[y])++y::B by simp,AMu (by simp [h])]
 simp
theorem ASq {A B:List α} {x y:α} {n:Nat} (h:A.length=n):((A++x::y::B).set (n+1) x).set n y=A++y::x::B:=by
 rw [show A++x::y::B=(A++[x])++y::B by simp,AMu (by simp [h]),show (A++[x])++x::B=A++x::x::B by simp,AMu h]
theorem AM5 {A B:List α} {x:α} {n:Nat} (h:A.length=n):(A++x::B)[n]?=some x:=by subst h; simp
end
section
variable {α:Type} {lt:α→α→Bool}
def APM (P X M Y Q:List α) (i:Nat):List α:=P++(Y.take i++X.drop i)++M++(X.take i++Y.drop i)++Q
theorem A8L (P X M Y Q:List α):APM P X M Y Q 0=P++X++M++Y++Q:=by simp [APM]
theorem A2v {P X M Y Q:List α} {n:Nat} (hx:X.length=n) (hy:Y.length=n):APM P X M Y Q n=P++Y++M++X++Q:=by
 unfold APM
 rw [List.take_of_length_le (by omega),List.drop_eq_nil_of_le (by omega),List.take_of_length_le (by omega),List.drop_eq_nil_of_le (by omega)]
 simp
theorem AYX {P X M Y Q:List α} {n i p q:Nat} {x y:α} (hx:X.length=n) (hy:Y.length=n) (hp:P.length=p) (hq:P.length+n+M.length=q) (hi:i<n) (h1:X[i]?=some x) (h2:Y[i]?=some y) :
  (APM P X M Y Q i)[p+i]?=some x∧(APM P X M Y Q i)[q+i]?=some y∧((APM P X M Y Q i).set (p+i) y).set (q+i) x=APM P X M Y Q (i+1):=by
 obtain ⟨a1,rfl⟩:=List.getElem?_eq_some_iff.1 h1
 obtain ⟨a2,rfl⟩:=List.getElem?_eq_some_iff.1 h2
 have dx:=List.drop_eq_getElem_cons a1
 have dy:=List.drop_eq_getElem_cons a2
 have tx:=List.take_succ_eq_append_getElem a1
 have ty:=List.take_succ_eq_append_getElem a2
 generalize X[i]=x at *
 generalize Y[i]=y at *
 have lx:(X.take i).length=i:=by simp; omega
 have ly:(Y.take i).length=i:=by simp; omega
 have ld:(X.drop (i+1)).length=n - (i+1):=by simp; omega
 have e1:APM P X M Y Q i=(P++Y.take i)++x::(X.drop (i+1)++M++X.take i++y::(Y.drop (i+1)++Q)):=by unfold APM; rw [dx,dy]; simp
 have e2:∀ z:α,(P++Y.take i)++z::(X.drop (i+1)++M++X.take i++y::(Y.drop (i+1)++Q))=(P++Y.take i++z::(X.drop (i+1)++M++X.take i))++y::(Y.drop (i+1)++Q):=fun z=>by simp
 have l1:(P++Y.take i).length=p+i:=by simp only [List.length_append,ly]; omega
 have l2:∀ z:α,(P++Y.take i++z::(X.drop (i+1)++M++X.take i)).length=q+i:=fun z=>by simp only [List.length_append,List.length_cons,ly,ld,lx]; omega
 refine ⟨by rw [e1]; exact AM5 l1,by rw [e1,e2]; exact AM5 (l2 x),?_⟩
 rw [e1,AMu l1,e2,AMu (l2 y)]
 unfold APM
 rw [tx,ty]
 simp
theorem ASS {l:List α} {a s:Nat} (h:a<s) (hs:s≤l.length):(AtG l a s).getLast?=l[s - 1]?:=by
 rw [List.getLast?_eq_getElem?,Awy hs,APb (by omega)]
 congr 1; omega
theorem ASH {l:List α} {e b:Nat} (h:e<b):(AtG l e b).head?=l[e]?:=by
 rw [List.head?_eq_getElem?,APb (by omega)]; rfl
theorem AMx {l:List α} {a:Nat}:AtG l a a=[]:=by unfold AtG; rw [Nat.sub_self,List.take_zero]
theorem AQN {l:List α} {a s:Nat} (h:a≤s):l.take s=l.take a++AtG l a s:=by
 unfold AtG
 conv=>lhs; rw [show s=a+(s - a) by omega,List.take_add]
theorem ARf {l:List α} {e b:Nat} (h:e≤b):l.drop e=AtG l e b++l.drop b:=by
 unfold AtG
 have:l.drop b=(l.drop e).drop (b - e):=by rw [List.drop_drop]; congr 1; omega
 rw [this,List.take_append_drop]
theorem AM2 {P C Q:List α} {a b:Nat} (ha:P.length=a) (hb:a+C.length=b):AtG (P++C++Q) a b=C:=by
 unfold AtG
 rw [List.append_assoc,←ha,List.drop_left,show b - P.length=C.length by omega,List.take_left]
theorem AXu {L L1:List α} {a m b s e mid:Nat} (k1:a≤s) (k2:s≤m) (k3:m≤e) (k4:e≤b) (k5:b≤L.length) (k6:s+e=mid+m) (h1:L1=L.take s++AtG L m e++AtG L s m++L.drop e) :
  AtG L1 a s=AtG L a s∧AtG L1 s mid=AtG L m e∧AtG L1 mid e=AtG L s m∧AtG L1 e b=AtG L e b∧L1.length=L.length:=by
 have ls:(L.take s).length=s:=by simp; omega
 have la:(L.take a).length=a:=by simp; omega
 have l1:(AtG L a s).length=s - a:=Awy (by omega)
 have l2:(AtG L s m).length=m - s:=Awy (by omega)
 have l3:(AtG L m e).length=e - m:=Awy (by omega)
 have l4:(AtG L e b).length=b - e:=Awy (by omega)
 refine ⟨?_,?_,?_,?_,?_⟩
 ·rw [h1,AQN (l:=L) k1,show L.take a++AtG L a s++AtG L m e++AtG L s m++L.drop e=L.take a++AtG L a s++(AtG L m e++AtG L s m++L.drop e) by simp]
  exact AM2 la (by omega)
 ·rw [h1,List.append_assoc]
  exact AM2 ls (by omega)
 ·rw [h1]
  exact AM2 (by rw [List.length_append]; omega) (by omega)
 ·rw [h1,ARf (l:=L) k4,←List.append_assoc]
  exact AM2 (by rw [List.length_append,List.length_append]; omega) (by omega)
 ·rw [h1]; simp only [List.length_append,ls,l2,l3,List.length_drop]; omega
theorem AVb {L:List α} {m s e:Nat} (k2:s≤m) (k3:m≤e) (h:s=m∨m=e):L=L.take s++AtG L m e++AtG L s m++L.drop e:=by
 rcases h with rfl | rfl
 ·rw [AMx,List.append_nil]; exact AHr k3
 ·rw [AMx,List.append_nil]; exact AHr k2
theorem A0B (hw:SW lt) {L L1 L2 L3:List α} {a m b s e mid:Nat} (k1:a≤s) (k2:s≤m) (k3:m≤e) (k4:e≤b) (k5:b≤L.length) (k6:s+e=mid+m)
  (ha:ABU lt (AtG L a m)) (hb:ABU lt (AtG L m b))
  (c1:∀ x y,a<s→e<b→L[s - 1]?=some x→L[e]?=some y→lt y x=false)
  (c2:∀ x y,s<m→m<e→L[e - 1]?=some x→L[s]?=some y→lt x y=true)
  (h1:L1=L.take s++AtG L m e++AtG L s m++L.drop e) (h2:Sg lt L1 L2 a mid) (h3:Sg lt L2 L3 mid b):Sg lt L L3 a b:=by
 have la:(L.take a).length=a:=by simp; omega
 have l1:(AtG L a s).length=s - a:=Awy (by omega)
 have l2:(AtG L s m).length=m - s:=Awy (by omega)
 have l3:(AtG L m e).length=e - m:=Awy (by omega)
 have l4:(AtG L e b).length=b - e:=Awy (by omega)
 have eL1:L1=L.take a++(AtG L a s++AtG L m e)++(AtG L s m++AtG L e b)++L.drop b:=by
  rw [h1,AQN (l:=L) k1,ARf (l:=L) k4]; simp
 have x1:AtG L1 a mid=AtG L a s++AtG L m e:=by
  rw [eL1,List.append_assoc]
  exact AM2 la (by simp only [List.length_append]; omega)
 have x2:AtG L1 mid b=AtG L s m++AtG L e b:=by
  rw [eL1]
  exact AM2 (by simp only [List.length_append]; omega) (by simp only [List.length_append]; omega)
 have x3:L1.take a=L.take a:=by rw [eL1,List.append_assoc,List.append_assoc,List.take_left' la]
 have x4:L1.drop b=L.drop b:=by rw [eL1,List.drop_left' (by simp only [List.length_append]; omega)]
 have x5:L1.length=L.length:=by rw [eL1]; simp only [List.length_append,la,l1,l2,l3,l4,List.length_drop]; omega
 have y1:AtG L3 a mid=AtG L2 a mid:=h3.before (Nat.le_refl _)
 have y2:AtG L2 mid b=AtG L1 mid b:=h2.after (Nat.le_refl _)
 have mids:a≤mid∧mid≤b:=by omega
 have x6:L2.drop b=L.drop b:=by
  have:∀ M:List α,M.drop b=(M.drop mid).drop (b - mid):=fun M=>by rw [List.drop_drop]; congr 1; omega
  rw [this L2,h2.post,←this L1,x4]
 have eAB:AtG L a b=(AtG L a s++AtG L s m)++(AtG L m e++AtG L e b):=by
  rw [Au0 (l:=L) (a:=a) (m:=m) (b:=b) (by omega) (by omega),Au0 (l:=L) k1 k2,Au0 (l:=L) k3 k4]
 rw [Au0 (l:=L) k1 k2] at ha
 rw [Au0 (l:=L) k3 k4] at hb
 have hs1:AzJ lt (AtG L2 a mid) (AtG L a s++AtG L m e):=by rw [←x1]; exact h2.stb
 have hs2:AzJ lt (AtG L3 mid b) (AtG L s m++AtG L e b):=by rw [←x2,←y2]; exact h3.stb
 have g1:∀ x∈(AtG L a s).getLast?,∀ y∈(AtG L e b).head?,lt y x=false:=fun x hx y hy=>by
  by_cases h:a<s
  ·by_cases h':e<b
   ·rw [ASS h (by omega)] at hx
    rw [ASH h'] at hy
    exact c1 x y h h' hx hy
   ·obtain rfl:e=b:=by omega
    rw [AMx] at hy; cases hy
  ·obtain rfl:a=s:=by omega
   rw [AMx] at hx; cases hx
 have g2:∀ x∈(AtG L m e).getLast?,∀ y∈(AtG L s m).head?,lt x y=true:=fun x hx y hy=>by
  by_cases h:s<m
  ·by_cases h':m<e
   ·rw [ASS h' (by omega)] at hx
    rw [ASH h] at hy
    exact c2 x y h h' hx hy
   ·obtain rfl:m=e:=by omega
    rw [AMx] at hx; cases hx
  ·obtain rfl:s=m:=by omega
   rw [AMx] at hy; cases hy
 obtain ⟨r1,r2⟩:=AXM hw ha hb g1 g2 h2.srt hs1 h3.srt hs2
 have eC:AtG L3 a b=AtG L2 a mid++AtG L3 mid b:=by rw [Au0 (l:=L3) mids.1 mids.2,y1]
 refine ⟨by rw [h3.len,h2.len,x5],?_,by rw [h3.post,x6],by rw [eC]; exact r1,by rw [eC,eAB]; exact r2⟩
 ·have:L3.take a=(L3.take mid).take a:=by rw [List.take_take,Nat.min_eq_left mids.1]
  rw [this,h3.pre,List.take_take,Nat.min_eq_left mids.1,h2.pre,x3]
end
section
open Go.RowKit
variable [AtQ]
abbrev AJP:TV := .val (.func (.func 28) #[] #[])
def RwJ (H:List Ob) (id ver:Nat) (L:List EnJ):Prop:=H[id]?=some (.obj ver (.arr L.length 24 (L.map enJ)))
theorem RwJ.lt {H:List Ob} {id ver:Nat} {L:List EnJ} (h:RwJ H id ver L):id<H.length:=(List.getElem?_eq_some_iff.1 h).1
abbrev AH6 (ver:Nat) (L:List EnJ):Ob := .obj ver (.arr L.length 24 (L.map enJ))
theorem RwJ.set {H:List Ob} {id ver:Nat} {L L':List EnJ} (h:RwJ H id ver L):RwJ (H.set id (AH6 ver L')) id ver L':=List.getElem?_set_self h.lt
theorem AYI {L:List EnJ} {i:Nat} {x:EnJ} (h:L[i]?=some x):(L.map enJ)[i]?=some (enJ x):=by rw [List.getElem?_map,h]; rfl
theorem AM8 {L:List EnJ} {i:Nat} {x:EnJ}:(L.map enJ).set i (enJ x)=(L.set i x).map enJ:=by rw [List.map_set]
theorem A74 {P X M Y Q:List EnJ} {p q n id ver:Nat} {fn:TV} {H:List Ob} {K:TV→List Ob→Prop} (hx:X.length=n) (hy:Y.length=n) (hp:P.length=p) (hq:P.length+n+M.length=q) (hl:(P++X++M++Y++Q).length≤1000000) (hr:RwJ H id ver (P++X++M++Y++Q))
  (hK:K (.tup []) (H.set id (AH6 ver (P++Y++M++X++Q)))):Atj Tryd.prog 77 [.os 24 id ver [] 0 (P++X++M++Y++Q).length (P++X++M++Y++Q).length,i64 (p:Int),i64 (q:Int),i64 (n:Int),fn] H K:=by
 refine Ayb (by simp) ?_
 have hid:=hr.lt
 have L0:∀ i,(APM P X M Y Q i).length=(P++X++M++Y++Q).length:=fun i=>by unfold APM; simp only [List.length_append,List.length_take,List.length_drop]; omega
 have hH0:H=H.set id (AH6 ver (APM P X M Y Q 0)):=by
  rw [A8L]
  apply List.ext_getElem?
  intro j
  rw [List.getElem?_set]
  split
  ·rename_i e; subst e; first | exact hr | (rw [if_pos hid]; exact hr)
  ·rfl
 have hpq:p+n≤q:=by omega
 have hqn:q+n≤(P++X++M++Y++Q).length:=by simp only [List.length_append]; omega
 generalize (P++X++M++Y++Q).length=N at *
 simp -dsimp (disch:=first | assumption | omega | (simp only [Ata];try omega)) only [↓Atf,Atb,Atd,Ate,eq_self,Nat.reduceEqDiff,↓reduceIte,Nat.reduceAdd,reduceCtorEq,↓Auq]
 refine At5 (fun c e H'=>∃ i:Nat,c=n - i∧i≤n∧e=[(0,.os 24 id ver [] 0 N N),(1,i64 (p:Int)),(2,i64 (q:Int)),(3,i64 (n:Int)),(10,i64 (i:Int))]∧H'=H.set id (AH6 ver (APM P X M Y Q i))) n ?_ ?_
 ·exact ⟨0,by omega,by omega,rfl,hH0⟩
 ·rintro c e H' ⟨i,rfl,hi,rfl,rfl⟩
  have hg:(H.set id (AH6 ver (APM P X M Y Q i)))[id]?=some (AH6 ver (APM P X M Y Q i)):=List.getElem?_set_self hid
  have hgg:∀ o:Ob,(H.set id o)[id]?=some o:=fun o=>List.getElem?_set_self hid
  have hss:∀ a b:Ob,(H.set id a).set id b=H.set id b:=fun a b=>List.set_set ..
  have hln:(H.set id (AH6 ver (APM P X M Y Q i))).length=H.length:=List.length_set ..
  by_cases h:i<n
  ·obtain ⟨x,h1⟩:∃ x,X[i]?=some x:=⟨_,List.getElem?_eq_getElem (by omega)⟩
   obtain ⟨y,h2⟩:∃ y,Y[i]?=some y:=⟨_,List.getElem?_eq_getElem (by omega)⟩
   obtain ⟨s1,s2,s3⟩:=AYX (P:=P) (M:=M) (Q:=Q) hx hy hp hq h h1 h2
   have g1:=AYI s1
   have g2:=AYI s2
   have g3:(((APM P X M Y Q i).map enJ).set (p+i) (enJ y))[q+i]?=some (enJ y):=by rw [List.getElem?_set_ne (by omega)]; exact g2
   have l0:=L0 i
   have s4:(((APM P X M Y Q i).map enJ).set (p+i) (enJ y)).set (q+i) (enJ x)=(APM P X M Y Q (i+1)).map enJ:=by rw [AM8,AM8,s3]
   have l1:=L0 (i+1)
   simp -dsimp (disch:=first | assumption | omega | (simp only [Ata];try omega)) only [↓Atf,Atb,Atd,Ate,eq_self,Nat.reduceEqDiff,↓reduceIte,reduceCtorEq,↓Auq,hgg,hss,l0,g1,g2,g3,s4,Axb,Azv,AEt,AAw,↓reduceIte]
   exact Atk (n - (i+1)) (by omega) (by simp) ⟨i+1,rfl,by omega,rfl,by rw [←l1]⟩
  ·obtain rfl:i=n:=by omega
   rw [A2v hx hy] at *
   simp -dsimp (disch:=first | assumption | omega | (simp only [Ata];try omega)) only [↓Atf,Atb,Atd,Ate,eq_self,Nat.reduceEqDiff,↓reduceIte,reduceCtorEq,↓Auq]
   exact hK
theorem AYk {L P X M Y Q:List EnJ} {n N id ver:Nat} {a b c:Int} {fn:TV} {H:List Ob} {K:TV→List Ob→Prop} (hL:L=P++X++M++Y++Q) (hN:N=L.length) (hx:X.length=n) (hy:Y.length=n) (hp:a=(P.length:Int)) (hq:b=((P.length+n+M.length:Nat):Int)) (hc:c=(n:Int)) (hl:N≤1000000) (hr:RwJ H id ver L)
  (hK:K (.tup []) (H.set id (AH6 ver (P++Y++M++X++Q)))):Atj Tryd.prog 77 [.os 24 id ver [] 0 N N,i64 a,i64 b,i64 c,fn] H K:=by
 subst hN
 subst hL
 subst hp
 subst hq
 subst hc
 exact A74 hx hy rfl rfl hl hr hK
theorem Bet {P X Y Q:List EnJ} {a m b N id ver:Nat} {fn:TV} {H:List Ob} {K:TV→List Ob→Prop} (hfn:AuM fn=false) (hN:N=(P++X++Y++Q).length) (hp:P.length=a) (hm:a+X.length=m) (hb:m+Y.length=b) (hx0:0<X.length) (hy0:0<Y.length) (hl:N≤1000000) (hr:RwJ H id ver (P++X++Y++Q))
  (hK:K (.tup []) (H.set id (AH6 ver (P++Y++X++Q)))):Atj Tryd.prog 66 [.os 24 id ver [] 0 N N,i64 (a:Int),i64 (m:Int),i64 (b:Int),fn] H K:=by
 refine AyX (by simp) ?_
 have hid:=hr.lt
 have hH0:H=H.set id (AH6 ver (P++X++Y++Q)):=by
  apply List.ext_getElem?
  intro j
  rw [List.getElem?_set]
  split
  ·rename_i e; subst e; first | exact hr | (rw [if_pos hid]; exact hr)
  ·rfl
 have hgg:∀ o:Ob,(H.set id o)[id]?=some o:=fun o=>List.getElem?_set_self hid
 have hss:∀ a b:Ob,(H.set id a).set id b=H.set id b:=fun a b=>List.set_set ..
 have hNl:P.length+X.length+Y.length+Q.length=N:=by rw [hN]; simp only [List.length_append]
 simp -dsimp (disch:=first | assumption | omega | (simp only [Ata];try omega)) only [↓Atf,Atb,Atd,Ate,eq_self,Nat.reduceEqDiff,↓reduceIte,Nat.reduceAdd,reduceCtorEq,↓AtF]
 refine At5 (fun c e H'=>∃ (i j:Nat) (P' X' Y' Q':List EnJ),c=i+j∧X'.length=i∧Y'.length=j∧0<i∧0<j∧P'.length+i=m∧P'.length+i+j+Q'.length=N∧P'++Y'++X'++Q'=P++Y++X++Q ∧
  e=[(0,.os 24 id ver [] 0 N N),(2,i64 (m:Int)),(4,fn),(10,i64 (i:Int)),(11,i64 (j:Int))]∧H'=H.set id (AH6 ver (P'++X'++Y'++Q'))) (X.length+Y.length) ?_ ?_
 ·refine ⟨X.length,Y.length,P,X,Y,Q,rfl,rfl,rfl,hx0,hy0,by omega,by omega,rfl,?_,hH0⟩
  rw [show X.length=m - a by omega,show Y.length=b - m by omega]
  rfl
 ·rintro c e H' ⟨i,j,P',X',Y',Q',rfl,hi,hj,hi0,hj0,hP,hl',hT,rfl,rfl⟩
  by_cases h:i=j
  ·subst h
   simp -dsimp (disch:=first | assumption | omega | (simp only [Ata];try omega)) only [↓Atf,Atb,Atd,Ate,eq_self,Nat.reduceEqDiff,↓reduceIte,reduceCtorEq,↓AtF]
   refine AwK (AYk (L:=P'++X'++Y'++Q') (P:=P') (X:=X') (M:=[]) (Y:=Y') (Q:=Q') (by simp) (by simp only [List.length_append]; omega) hi hj (by omega) (by simp only [List.length_nil]; omega) rfl hl (hgg _) ?_)
   rw [hss,List.append_nil,hT]
   simp -dsimp (disch:=first | assumption | omega | (simp only [Ata];try omega)) only [↓Atf,Atb,Atd,↓AtF]
   exact hK
  ·by_cases h2:j<i
   ·obtain ⟨X1,X2,rfl,hx1⟩:∃ X1 X2,X'=X1++X2∧X1.length=j:=⟨X'.take j,X'.drop j,(List.take_append_drop j X').symm,by simp; omega⟩
    rw [List.length_append] at hi
    simp -dsimp (disch:=first | assumption | omega | (simp only [Ata];try omega)) only [↓Atf,Atb,Atd,Ate,eq_self,Nat.reduceEqDiff,↓reduceIte,reduceCtorEq,↓AtF]
    refine AwK (AYk (L:=P'++(X1++X2)++Y'++Q') (P:=P') (X:=X1) (M:=X2) (Y:=Y') (Q:=Q') (by simp) (by simp only [List.length_append]; omega) hx1 hj (by omega) (by omega) rfl hl (hgg _) ?_)
    rw [hss]
    simp -dsimp (disch:=first | assumption | omega | (simp only [Ata];try omega)) only [↓Atf,Atb,Atd,Ate,eq_self,Nat.reduceEqDiff,↓reduceIte,reduceCtorEq]
    exact Atk (i - j+j) (by omega) (by simp) ⟨i - j,j,P'++Y',X2,X1,Q',rfl,by omega,hx1,by omega,hj0,by simp only [List.length_append]; omega,by simp only [List.length_append]; omega,by rw [←hT]; simp,rfl,by simp⟩
   ·obtain ⟨Y1,Y2,rfl,hy2⟩:∃ Y1 Y2,Y'=Y1++Y2∧Y2.length=i:=⟨Y'.take (j - i),Y'.drop (j - i),(List.take_append_drop _ Y').symm,by simp; omega⟩
    rw [List.length_append] at hj
    simp -dsimp (disch:=first | assumption | omega | (simp only [Ata];try omega)) only [↓Atf,Atb,Atd,Ate,eq_self,Nat.reduceEqDiff,↓reduceIte,reduceCtorEq,↓AtF]
    refine AwK (AYk (L:=P'++X'++(Y1++Y2)++Q') (P:=P') (X:=X') (M:=Y1) (Y:=Y2) (Q:=Q') (by simp) (by simp only [List.length_append]; omega) hi hy2 (by omega) (by omega) rfl hl (hgg _) ?_)
    rw [hss]
    simp -dsimp (disch:=first | assumption | omega | (simp only [Ata];try omega)) only [↓Atf,Atb,Atd,Ate,eq_self,Nat.reduceEqDiff,↓reduceIte,reduceCtorEq]
    exact Atk (i+(j - i)) (by omega) (by simp) ⟨i,j - i,P',Y2,Y1,X'++Q',rfl,hy2,by omega,hi0,by omega,hP,by simp only [List.length_append]; omega,by rw [←hT]; simp,rfl,by simp⟩
end
section
open Go.RowKit
variable [AtQ]
theorem AOe:AMt Tryd.prog 28=true:=As9 (by kernel_rfl)
theorem RwJ.self {H:List Ob} {id ver:Nat} {L:List EnJ} (h:RwJ H id ver L):H=H.set id (AH6 ver L):=by
 have hid:=h.lt
 apply List.ext_getElem?
 intro j
 rw [List.getElem?_set]
 split
 ·rename_i e; subst e; first | exact h | (rw [if_pos hid]; exact h)
 ·rfl
structure BeL (L L':List EnJ) (a i j:Nat):Prop where
 ex:∃ (A B:List EnJ) (x:EnJ),L[i]?=some x∧AtG L a i=A++B∧j=a+A.length∧(∀ y∈B,ltJ x y=true)∧L'=L.take a++(A++x::B)++L.drop (i+1)
theorem BdY {L:List EnJ} {a b N id ver:Nat} {H:List Ob} {K:TV→List Ob→Prop} (hN:N=L.length) (hab:a≤b) (hb:b≤N) (hl:N≤1000000) (hr:RwJ H id ver L)
  (hK:∀ L',Sg ltJ L L' a b→K (.tup []) (H.set id (AH6 ver L'))):Atj Tryd.prog 56 [.os 24 id ver [] 0 N N,i64 (a:Int),i64 (b:Int),AJP] H K:=by
 refine AuW (by simp) ?_
 have hid:=hr.lt
 have hgg:∀ o:Ob,(H.set id o)[id]?=some o:=fun o=>List.getElem?_set_self hid
 have hss:∀ a b:Ob,(H.set id a).set id b=H.set id b:=fun a b=>List.set_set ..
 have hH0:=hr.self
 by_cases h1:b≤a+1
 ·have hsg:Sg ltJ L L a b:=Sg.none (by
   unfold AtG
   refine List.Pairwise.sublist (List.take_sublist_take_left (by omega:b - a≤1)) ?_
   cases L.drop a with
   | nil=>simp
   | cons x t=>simp)
  have:=hK L hsg
  rw [←hH0] at this
  simp -dsimp (disch:=first | assumption | omega | (simp only [Ata];try omega)) only [↓Atf,Atb,Atd,Ate,eq_self,Nat.reduceEqDiff,↓reduceIte,Nat.reduceAdd,reduceCtorEq,↓Atg]
  refine At5 (fun c e H'=>c=0∧e=[(0,.os 24 id ver [] 0 N N),(1,i64 (a:Int)),(2,i64 (b:Int)),(3,AJP),(8,i64 ((a+1:Nat):Int))]∧H'=H) 0 ?_ ?_
  ·exact ⟨rfl,rfl,rfl⟩
  ·rintro c e H' ⟨rfl,rfl,rfl⟩
   simp -dsimp (disch:=first | assumption | omega | (simp only [Ata];try omega)) only [↓Atf,Atb,Atd,Ate,eq_self,Nat.reduceEqDiff,↓reduceIte,reduceCtorEq,↓Atg]
   exact this
 simp -dsimp (disch:=first | assumption | omega | (simp only [Ata];try omega)) only [↓Atf,Atb,Atd,Ate,eq_self,Nat.reduceEqDiff,↓reduceIte,Nat.reduceAdd,reduceCtorEq,↓Atg]
 refine At5 (fun c e H'=>∃ (i:Nat) (L':List EnJ),c=b - i∧a+1≤i∧i≤b∧Sg ltJ L L' a i∧e=[(0,.os 24 id ver [] 0 N N),(1,i64 (a:Int)),(2,i64 (b:Int)),(3,AJP),(8,i64 (i:Int))]∧H'=H.set id (AH6 ver L')) (b - (a+1)) ?_ ?_
 ·refine ⟨a+1,L,by omega,by omega,by omega,Sg.none ?_,rfl,hH0⟩
  unfold AtG
  rw [show a+1 - a=1 by omega]
  cases L.drop a with
  | nil=>exact AYN
  | cons x t=>exact List.pairwise_singleton _ _
 ·rintro c e H' ⟨i,L',rfl,hai,hib,hsg,rfl,rfl⟩
  by_cases h:i<b
  case neg =>
   obtain rfl:i=b:=by omega
   simp -dsimp (disch:=first | assumption | omega | (simp only [Ata];try omega)) only [↓Atf,Atb,Atd,Ate,eq_self,Nat.reduceEqDiff,↓reduceIte,reduceCtorEq,↓Atg]
   exact hK L' hsg
  have hlen:=hsg.len
  obtain ⟨x,hx⟩:∃ x,L'[i]?=some x:=⟨_,List.getElem?_eq_getElem (by omega)⟩
  have fin:∀ {L2:List EnJ} {A B:List EnJ},AtG L' a i=A++B→(∀ y∈B,ltJ x y=true)→L2=L'.take a++(A++x::B)++L'.drop (i+1)→(∀ y∈A.getLast?,ltJ x y=false)→Sg ltJ L L2 a (i+1):=fun {L2 A B} hc hB hL2 hA=>by
   have hs:=hsg.srt
   rw [hc] at hs
   obtain ⟨r1,r2⟩:=AYV swJ hs hB hA
   have e1:AtG L' a (i+1)=A++B++[x]:=by rw [Au0 (l:=L') (by omega:a≤i) (by omega:i≤i+1),hc,AHU hx]
   refine hsg.comp ?_ (by omega) (by omega)
   have e2:=AHr (l:=L') (by omega:a≤i+1)
   rw [e1] at e2
   rw [hL2]
   conv=>arg 2; rw [e2]
   have hlt:(L'.take a).length=a:=by simp; omega
   have hcl:(AtG L' a (i+1)).length=i+1 - a:=Awy (by omega)
   rw [e1] at hcl
   exact Sg.of hlt (by rw [hcl]; omega) r1 r2 (by simp)
  simp -dsimp (disch:=first | assumption | omega | (simp only [Ata];try omega)) only [↓Atf,Atb,Atd,Ate,eq_self,Nat.reduceEqDiff,↓reduceIte,reduceCtorEq,↓Atg]
  refine At5 (fun c e H'=>∃ (A B:List EnJ) (L2:List EnJ),c=A.length∧AtG L' a i=A++B∧(∀ y∈B,ltJ x y=true)∧L2=L'.take a++(A++x::B)++L'.drop (i+1)∧L2.length=N ∧
   e=[(0,.os 24 id ver [] 0 N N),(1,i64 (a:Int)),(2,i64 (b:Int)),(3,AJP),(8,i64 (i:Int)),(9,i64 ((a+A.length:Nat):Int))]∧H'=H.set id (AH6 ver L2)) (i - a) ?_ ?_
  ·have e2:=AHr (l:=L') (by omega:a≤i+1)
   rw [Au0 (l:=L') (by omega:a≤i) (by omega:i≤i+1),AHU hx] at e2
   have hcl:(AtG L' a i).length=i - a:=Awy (by omega)
   exact ⟨AtG L' a i,[],L',hcl.symm,by simp,by simp,e2,by omega,by rw [hcl,show a+(i - a)=i by omega]; rfl,rfl⟩
  ·rintro c e H' ⟨A,B,L2,rfl,hc,hB,hL2,hl2,rfl,rfl⟩
   by_cases hA0:A=[]
   ·subst hA0
    have hf:=fin hc hB hL2 (by simp)
    simp -dsimp (disch:=first | assumption | omega | (simp only [Ata];try omega)) only [↓Atf,Atb,Atd,Ate,eq_self,Nat.reduceEqDiff,↓reduceIte,reduceCtorEq,↓Atg]
    exact Atk (b - (i+1)) (by omega) (by simp) ⟨i+1,L2,rfl,by omega,by omega,hf,rfl,rfl⟩
   ·obtain ⟨A',y,rfl⟩:∃ A' y,A=A'++[y]:=⟨_,_,(List.dropLast_concat_getLast hA0).symm⟩
    have hlt:(L'.take a).length=a:=by simp; omega
    have hAl:(A'++[y]).length=A'.length+1:=by simp
    have eL:L2=(L'.take a++A')++y::x::(B++L'.drop (i+1)):=by rw [hL2]; simp
    have p1:(L'.take a++A').length=a+A'.length:=by rw [List.length_append,hlt]
    have g1:L2[a+(A'.length+1) - 1]?=some y:=by rw [show a+(A'.length+1) - 1=a+A'.length by omega,eL]; exact AM5 p1
    have g2:L2[a+(A'.length+1)]?=some x:=by
     rw [eL,show (L'.take a++A')++y::x::(B++L'.drop (i+1))=(L'.take a++A'++[y])++x::(B++L'.drop (i+1)) by simp]
     exact AM5 (by rw [List.length_append,p1]; rfl)
    have hLb:a+A'.length+1<N:=by rw [←hl2,eL]; simp only [List.length_append,List.length_cons,hlt]; omega
    rw [hAl]
    simp -dsimp (disch:=first | assumption | omega | (simp only [Ata];try omega)) only [↓Atf,Atb,Atd,Ate,eq_self,Nat.reduceEqDiff,↓reduceIte,reduceCtorEq,↓Atg,hgg,hl2,g1,g2,Axb,Azv,AGt]
    refine ⟨AOe,?_⟩
    refine AwK ((AUL x y).calls (by simp [Aud,AAw]) fun r hr => ?_)
    subst hr
    by_cases hxy:ltJ x y=true
    ·have h3:=(AHw x y).2 hxy
     have g3:((L2.map enJ).set (a+(A'.length+1)) (enJ y))[a+(A'.length+1) - 1]?=some (enJ y):=by rw [List.getElem?_set_ne (by omega)]; exact AYI g1
     have g4:((L2.map enJ).set (a+(A'.length+1)) (enJ y)).set (a+(A'.length+1) - 1) (enJ x)=(L'.take a++(A'++x::(y::B))++L'.drop (i+1)).map enJ:=by
      rw [AM8,AM8,show a+(A'.length+1) - 1=a+A'.length by omega,show a+(A'.length+1)=a+A'.length+1 by omega,eL,ASq p1]
      simp
     have l3:(L'.take a++(A'++x::(y::B))++L'.drop (i+1)).length=N:=by rw [←hl2,hL2]; simp
     simp -dsimp (disch:=first | assumption | omega | (simp only [Ata];try omega)) only [↓Atf,Atb,Atd,Ate,eq_self,Nat.reduceEqDiff,↓reduceIte,reduceCtorEq,↓Atg,hgg,hss,hl2,g1,g2,g3,g4,Axb,Azv,AEt,AAw,↓reduceIte]
     refine Atk A'.length (by simp) (by simp) ⟨A',y::B,_,rfl,by rw [hc]; simp,fun z hz => ?_,rfl,l3,by rw [show a+(A'.length+1) - 1=a+A'.length by omega]; rfl,by rw [←l3]⟩
     rcases List.mem_cons.1 hz with rfl | hz
     ·exact hxy
     ·exact hB z hz
    ·have h3:¬ A7A x y<0:=fun k=>hxy ((AHw x y).1 k)
     have hf:=fin hc hB hL2 (fun z hz=>by simp at hz; subst hz; exact Bool.eq_false_iff.2 hxy)
     simp -dsimp (disch:=first | assumption | omega | (simp only [Ata];try omega)) only [↓Atf,Atb,Atd,Ate,eq_self,Nat.reduceEqDiff,↓reduceIte,reduceCtorEq,↓Atg]
     exact Atk (b - (i+1)) (by omega) (by simp) ⟨i+1,L2,rfl,by omega,by omega,hf,rfl,rfl⟩
end
section
open Go.RowKit
variable [AtQ]
section
variable {t:TypeId} {a b:Nat} {k2:IntKind}
theorem ARg {n:Nat} (h:n<18446744073709551616):IntKind.u64.wrap (n:Int)=n:=by rw [IntKind.wrap_u64]; omega
theorem ALw (h2:b≤64):AyH t .shr (.int .u64 (a:Int)) (.int k2 (b:Int))=some (.int .u64 ((a / 2 ^ b:Nat):Int)):=by
 have e:binOp .shr t (.int .u64 (a:Int)) (.int k2 (b:Int))=pure (.int .u64 ((a / 2 ^ b:Nat):Int)):=by
  show Op.shift .shr .u64 a k2 b=_
  unfold Op.shift
  rw [if_neg (by omega)]
  have hm:min ((b:Int)).toNat IntKind.u64.bits=b:=by
   have:IntKind.u64.bits=64:=rfl
   omega
  simp only [hm]
  rw [Int.fdiv_eq_ediv_of_nonneg _ (by exact Int.le_of_lt (Int.pow_pos (by omega)))]
  have e2:(a:Int) / 2 ^ b=((a / 2 ^ b:Nat):Int):=by rw [Int.natCast_ediv,Int.natCast_pow]; rfl
  rw [e2]
 unfold AyH; rw [e]; rfl
end
end
section
open Go.RowKit
variable [AtQ]
theorem AQF {L:List EnJ} {i j:Nat} {y:EnJ} (h:y∈AtG L i j):∃ t,i≤t∧t<j∧L[t]?=some y:=by
 obtain ⟨k,hk⟩:=List.mem_iff_getElem?.1 h
 have hlt:=(List.getElem?_eq_some_iff.1 hk).1
 have:(AtG L i j).length≤j - i:=by unfold AtG; simp; omega
 refine ⟨i+k,by omega,by omega,?_⟩
 rw [←APb (b:=j) (by omega)]; exact hk
theorem A59 {L:List EnJ} {a m b N id ver:Nat} {H:List Ob} {Q:VEx→Env→List Ob→Prop} {G:Env} (hN:N=L.length) (hm:m=a+1) (hmb:m≤b) (hb:b≤N) (hl:N≤1000000) (hr:RwJ H id ver L) (hsB:ABU ltJ (AtG L m b))
  (hQ:∀ L',Sg ltJ L L' a b→∀ e,Q .ret e (H.set id (AH6 ver L'))) :
  vwp Tryd.prog At9 Q ((0,.os 24 id ver [] 0 N N)::(1,i64 (a:Int))::(2,i64 (m:Int))::(3,i64 (b:Int))::(4,AJP)::G) H:=by
 have hid:=hr.lt
 have hgg:∀ o:Ob,(H.set id o)[id]?=some o:=fun o=>List.getElem?_set_self hid
 have hss:∀ a b:Ob,(H.set id a).set id b=H.set id b:=fun a b=>List.set_set ..
 have hH0:=hr.self
 obtain ⟨x,hx⟩:∃ x,L[a]?=some x:=⟨_,List.getElem?_eq_getElem (by omega)⟩
 have hrr:H[id]?=some (AH6 ver L):=hr
 simp -dsimp (disch:=first | assumption | omega | (simp only [Ata];try omega)) only [↓Atf,Atb,Atd,Ate,eq_self,Nat.reduceEqDiff,↓reduceIte,reduceCtorEq,↓Axq,↓Axm,↓AxF]
 refine At5 (fun c e H'=>∃ i j:Nat,c=j - i∧m≤i∧i≤j∧j≤b∧(∀ t y,m≤t→t<i→L[t]?=some y→ltJ y x=true)∧(∀ t y,j≤t→t<b→L[t]?=some y→ltJ y x=false) ∧
  e=[(0,.os 24 id ver [] 0 N N),(1,i64 (a:Int)),(4,AJP),(10,i64 (i:Int)),(11,i64 (j:Int))]∧H'=H) (b - m) ?_ ?_
 ·exact ⟨m,b,rfl,by omega,by omega,by omega,by omega,by omega,rfl,rfl⟩
 ·rintro c e H' ⟨i,j,rfl,hi,hij,hjb,hlo,hhi,rfl,hHH⟩
  subst H'
  by_cases h:i<j
  ·have hw:=ARg (n:=i+j) (by omega)
   have hm1:i≤(i+j) / 2 ^ 1:=by omega
   have hm2:(i+j) / 2 ^ 1<j:=by omega
   simp -dsimp (disch:=first | assumption | omega | (simp only [Ata];try omega)) only [↓Atf,Atb,Atd,Ate,eq_self,Nat.reduceEqDiff,Nat.reducePow,↓reduceIte,reduceCtorEq,↓Au4,↓AxP,hw,ALw]
   generalize (i+j) / 2 ^ 1=t at *
   obtain ⟨y,hy⟩:∃ y,L[t]?=some y:=⟨_,List.getElem?_eq_getElem (by omega)⟩
   simp -dsimp (disch:=first | assumption | omega | (simp only [Ata];try omega)) only [↓Atf,Atb,Atd,Ate,eq_self,Nat.reduceEqDiff,↓reduceIte,reduceCtorEq,↓AxM,hrr,hx,hy,Axb,Azv,AGt]
   refine ⟨AOe,?_⟩
   refine AwK ((AUL y x).calls (by simp [Aud,AAw]) fun r hr => ?_)
   subst hr
   by_cases hyx:ltJ y x=true
   ·have h3:=(AHw y x).2 hyx
    simp -dsimp (disch:=first | assumption | omega | (simp only [Ata];try omega)) only [↓Atf,Atb,Atd,Ate,eq_self,Nat.reduceEqDiff,↓reduceIte,reduceCtorEq]
    refine Atk (j - (t+1)) (by omega) (by simp) ⟨t+1,j,rfl,by omega,by omega,hjb,fun u z hu hu2 hz => ?_,hhi,rfl,rfl⟩
    cases e:ltJ z x with
    | true=>rfl
    | false =>
     have:=swJ.ntr (AUP swJ hsB hu (by omega:u≤t) (by omega) hz hy) e
     rw [hyx] at this; cases this
   ·have h3:¬ A7A y x<0:=fun k=>hyx ((AHw y x).1 k)
    simp -dsimp (disch:=first | assumption | omega | (simp only [Ata];try omega)) only [↓Atf,Atb,Atd,Ate,eq_self,Nat.reduceEqDiff,↓reduceIte,reduceCtorEq]
    refine Atk (t - i) (by omega) (by simp) ⟨i,t,rfl,by omega,by omega,by omega,hlo,fun u z hu hu2 hz => ?_,rfl,rfl⟩
    exact swJ.ntr (AUP swJ hsB (by omega) hu hu2 hy hz) (Bool.eq_false_iff.2 hyx)
  ·obtain rfl:i=j:=by omega
   have hlt:(L.take a).length=a:=by simp; omega
   have hcl:(AtG L m i).length=i - m:=Awy (by omega)
   have e0:=AHr (l:=L) (by omega:a≤i)
   rw [Au0 (l:=L) (by omega:a≤m) hi,hm,AHU hx] at e0
   rw [←hm] at e0
   have e1:=AHr (l:=L) (by omega:a≤b)
   rw [Au0 (l:=L) (by omega:a≤m) (by omega:m≤b),Au0 (l:=L) hi hjb,hm,AHU hx] at e1
   rw [←hm] at e1
   have fin:Sg ltJ L (L.take a++(AtG L m i++[x])++L.drop i) a b:=by
    have hs2:=hsB
    rw [Au0 (l:=L) hi hjb] at hs2
    obtain ⟨r1,r2⟩:=A86 swJ hs2 (x:=x) (fun y hy=>by obtain ⟨t,t1,t2,t3⟩:=AQF hy; exact hlo t y t1 t2 t3) (fun y hy=>by obtain ⟨t,t1,t2,t3⟩:=AQF hy; exact hhi t y t1 t2 t3)
    have e2:L.take a++(AtG L m i++[x])++L.drop i=L.take a++(AtG L m i++x::AtG L i b)++L.drop b:=by
     rw [ARf (l:=L) hjb]; simp
    have hc2:(AtG L i b).length=b - i:=Awy (by omega)
    rw [e2]
    conv=>arg 2; rw [e1]
    exact Sg.of hlt (by simp only [List.length_append,List.length_singleton,hcl,hc2]; omega) r1 (by simpa using r2) (by simp; omega)
   simp -dsimp (disch:=first | assumption | omega | (simp only [Ata];try omega)) only [↓Atf,Atb,Atd,Ate,eq_self,Nat.reduceEqDiff,↓reduceIte,reduceCtorEq,↓Au4,↓AxR,↓AxO]
   refine At5 (fun c e H'=>∃ (B1 B2 L2:List EnJ),c=B2.length∧AtG L m i=B1++B2∧L2=L.take a++(B1++x::B2)++L.drop i∧L2.length=N ∧
    e=[(0,.os 24 id ver [] 0 N N),(10,i64 (i:Int)),(13,i64 ((a+B1.length:Nat):Int))]∧H'=H.set id (AH6 ver L2)) (i - m) ?_ ?_
   ·refine ⟨[],AtG L m i,L,hcl.symm,rfl,by rw [List.nil_append]; simpa using e0,hN.symm,rfl,hH0⟩
   ·rintro c e H' ⟨B1,B2,L2,rfl,hc,hL2,hl2,rfl,rfl⟩
    have hBl:B1.length+B2.length=i - m:=by rw [←hcl,hc,List.length_append]
    cases B2 with
    | nil =>
     rw [List.append_nil] at hc
     rw [←hc] at hL2
     rw [List.length_nil] at hBl
     rw [←hL2] at fin
     simp -dsimp (disch:=first | assumption | omega | (simp only [Ata];try omega)) only [↓Atf,Atb,Atd,Ate,eq_self,Nat.reduceEqDiff,↓reduceIte,reduceCtorEq,↓Au5,↓AxN]
     exact hQ L2 fin _
    | cons y B2 =>
     rw [List.length_cons] at hBl
     have p1:(L.take a++B1).length=a+B1.length:=by rw [List.length_append,hlt]
     have eL:L2=(L.take a++B1)++x::y::(B2++L.drop i):=by rw [hL2]; simp
     have g1:L2[a+B1.length]?=some x:=by rw [eL]; exact AM5 p1
     have g2:L2[a+B1.length+1]?=some y:=by
      rw [eL,show (L.take a++B1)++x::y::(B2++L.drop i)=(L.take a++B1++[x])++y::(B2++L.drop i) by simp]
      exact AM5 (by rw [List.length_append,p1]; rfl)
     have g3:((L2.map enJ).set (a+B1.length) (enJ y))[a+B1.length+1]?=some (enJ y):=by rw [List.getElem?_set_ne (by omega)]; exact AYI g2
     have g4:((L2.map enJ).set (a+B1.length) (enJ y)).set (a+B1.length+1) (enJ x)=(L.take a++((B1++[y])++x::B2)++L.drop i).map enJ:=by
      rw [AM8,AM8,eL,A2u p1]; simp
     have l3:(L.take a++((B1++[y])++x::B2)++L.drop i).length=N:=by rw [←hl2,hL2]; simp
     have hb2:a+B1.length+1<N:=by omega
     simp -dsimp (disch:=first | assumption | omega | (simp only [Ata];try omega)) only [↓Atf,Atb,Atd,Ate,eq_self,Nat.reduceEqDiff,↓reduceIte,reduceCtorEq,↓Au5,↓AxQ,hgg,hss,hl2,g1,g2,g3,g4,Axb,Azv,AEt,AAw,↓reduceIte]
     exact Atk B2.length (by simp) (by simp) ⟨B1++[y],B2,_,rfl,by rw [hc]; simp,rfl,l3,by simp only [List.length_append,List.length_singleton]; rfl,by rw [←l3]⟩
theorem AXk {L:List EnJ} {a m b N id ver:Nat} {H:List Ob} {Q:VEx→Env→List Ob→Prop} {G:Env} (hN:N=L.length) (hm:b=m+1) (hmb:a≤m) (hb:b≤N) (hl:N≤1000000) (hr:RwJ H id ver L) (hsA:ABU ltJ (AtG L a m))
  (hQ:∀ L',Sg ltJ L L' a b→∀ e,Q .ret e (H.set id (AH6 ver L'))) :
  vwp Tryd.prog At8 Q ((0,.os 24 id ver [] 0 N N)::(1,i64 (a:Int))::(2,i64 (m:Int))::(3,i64 (b:Int))::(4,AJP)::G) H:=by
 have hid:=hr.lt
 have hgg:∀ o:Ob,(H.set id o)[id]?=some o:=fun o=>List.getElem?_set_self hid
 have hss:∀ a b:Ob,(H.set id a).set id b=H.set id b:=fun a b=>List.set_set ..
 have hH0:=hr.self
 obtain ⟨x,hx⟩:∃ x,L[m]?=some x:=⟨_,List.getElem?_eq_getElem (by omega)⟩
 have hrr:H[id]?=some (AH6 ver L):=hr
 simp -dsimp (disch:=first | assumption | omega | (simp only [Ata];try omega)) only [↓Atf,Atb,Atd,Ate,eq_self,Nat.reduceEqDiff,↓reduceIte,reduceCtorEq,↓Axo,↓AxE,↓Axw]
 refine At5 (fun c e H'=>∃ i j:Nat,c=j - i∧a≤i∧i≤j∧j≤m∧(∀ t y,a≤t→t<i→L[t]?=some y→ltJ x y=false)∧(∀ t y,j≤t→t<m→L[t]?=some y→ltJ x y=true) ∧
  e=[(0,.os 24 id ver [] 0 N N),(2,i64 (m:Int)),(4,AJP),(14,i64 (i:Int)),(15,i64 (j:Int))]∧H'=H) (m - a) ?_ ?_
 ·exact ⟨a,m,rfl,by omega,by omega,by omega,by omega,by omega,rfl,rfl⟩
 ·rintro c e H' ⟨i,j,rfl,hi,hij,hjb,hlo,hhi,rfl,hHH⟩
  subst H'
  by_cases h:i<j
  ·have hw:=ARg (n:=i+j) (by omega)
   have hm1:i≤(i+j) / 2 ^ 1:=by omega
   have hm2:(i+j) / 2 ^ 1<j:=by omega
   simp -dsimp (disch:=first | assumption | omega | (simp only [Ata];try omega)) only [↓Atf,Atb,Atd,Ate,eq_self,Nat.reduceEqDiff,Nat.reducePow,↓reduceIte,reduceCtorEq,↓AuV,↓AxD,hw,ALw]
   generalize (i+j) / 2 ^ 1=t at *
   obtain ⟨y,hy⟩:∃ y,L[t]?=some y:=⟨_,List.getElem?_eq_getElem (by omega)⟩
   simp -dsimp (disch:=first | assumption | omega | (simp only [Ata];try omega)) only [↓Atf,Atb,Atd,Ate,eq_self,Nat.reduceEqDiff,↓reduceIte,reduceCtorEq,↓Axy,hrr,hx,hy,Axb,Azv,AGt]
   refine ⟨AOe,?_⟩
   refine AwK ((AUL x y).calls (by simp [Aud,AAw]) fun r hr => ?_)
   subst hr
   by_cases hyx:ltJ x y=true
   ·have h3:=(AHw x y).2 hyx
    simp -dsimp (disch:=first | assumption | omega | (simp only [Ata];try omega)) only [↓Atf,Atb,Atd,Ate,eq_self,Nat.reduceEqDiff,↓reduceIte,reduceCtorEq]
    refine Atk (t - i) (by omega) (by simp) ⟨i,t,rfl,by omega,by omega,by omega,hlo,fun u z hu hu2 hz => ?_,rfl,rfl⟩
    cases e:ltJ x z with
    | true=>rfl
    | false =>
     have:=swJ.ntr e (AUP swJ hsA (by omega) hu hu2 hy hz)
     rw [hyx] at this; cases this
   ·have h3:¬ A7A x y<0:=fun k=>hyx ((AHw x y).1 k)
    simp -dsimp (disch:=first | assumption | omega | (simp only [Ata];try omega)) only [↓Atf,Atb,Atd,Ate,eq_self,Nat.reduceEqDiff,↓reduceIte,reduceCtorEq]
    refine Atk (j - (t+1)) (by omega) (by simp) ⟨t+1,j,rfl,by omega,by omega,hjb,fun u z hu hu2 hz => ?_,hhi,rfl,rfl⟩
    exact swJ.ntr (Bool.eq_false_iff.2 hyx) (AUP swJ hsA hu (by omega:u≤t) (by omega) hz hy)
  ·obtain rfl:i=j:=by omega
   have hlt:(L.take a).length=a:=by simp; omega
   have hli:(L.take i).length=i:=by simp; omega
   have hcl:(AtG L i m).length=m - i:=Awy (by omega)
   have e0:=AHr (l:=L) (by omega:i≤b)
   rw [hm,Au0 (l:=L) (by omega:i≤m) (by omega:m≤m+1),AHU hx,←hm] at e0
   have e1:=AHr (l:=L) (by omega:a≤b)
   rw [hm,Au0 (l:=L) (by omega:a≤m) (by omega:m≤m+1),Au0 (l:=L) hi hjb,AHU hx,←hm] at e1
   have fin:Sg ltJ L (L.take i++x::AtG L i m++L.drop b) a b:=by
    have hs2:=hsA
    rw [Au0 (l:=L) hi hjb] at hs2
    obtain ⟨r1,r2⟩:=AYV swJ hs2 (x:=x) (fun y hy=>by obtain ⟨t,t1,t2,t3⟩:=AQF hy; exact hhi t y t1 t2 t3) (fun y hy=>by obtain ⟨t,t1,t2,t3⟩:=AQF (List.mem_of_getLast? hy); exact hlo t y t1 t2 t3)
    have e2:L.take i++x::AtG L i m++L.drop b=L.take a++(AtG L a i++x::AtG L i m)++L.drop b:=by
     rw [AQN (l:=L) hi]; simp
    have hc2:(AtG L a i).length=i - a:=Awy (by omega)
    rw [e2]
    conv=>arg 2; rw [e1]
    exact Sg.of hlt (by simp only [List.length_append,List.length_singleton,hcl,hc2]; omega) r1 (by simpa using r2) (by simp)
   simp -dsimp (disch:=first | assumption | omega | (simp only [Ata];try omega)) only [↓Atf,Atb,Atd,Ate,eq_self,Nat.reduceEqDiff,↓reduceIte,reduceCtorEq,↓AuV,↓Axz,↓AxB]
   refine At5 (fun c e H'=>∃ (A1 A2 L2:List EnJ),c=A1.length∧AtG L i m=A1++A2∧L2=L.take i++(A1++x::A2)++L.drop b∧L2.length=N ∧
    e=[(0,.os 24 id ver [] 0 N N),(14,i64 (i:Int)),(17,i64 ((i+A1.length:Nat):Int))]∧H'=H.set id (AH6 ver L2)) (m - i) ?_ ?_
   ·refine ⟨AtG L i m,[],L,hcl.symm,by simp,e0,hN.symm,by rw [hcl,show i+(m - i)=m by omega]; rfl,hH0⟩
   ·rintro c e H' ⟨A1,A2,L2,rfl,hc,hL2,hl2,rfl,rfl⟩
    by_cases hA0:A1=[]
    ·subst hA0
     rw [List.nil_append] at hc hL2
     rw [←hc] at hL2
     rw [←hL2] at fin
     simp -dsimp (disch:=first | assumption | omega | (simp only [Ata];try omega)) only [↓Atf,Atb,Atd,Ate,eq_self,Nat.reduceEqDiff,↓reduceIte,reduceCtorEq,↓AuS,↓Axu]
     exact hQ L2 fin _
    ·obtain ⟨A',y,rfl⟩:∃ A' y,A1=A'++[y]:=⟨_,_,(List.dropLast_concat_getLast hA0).symm⟩
     have hAl:(A'++[y]).length=A'.length+1:=by simp
     have p1:(L.take i++A').length=i+A'.length:=by rw [List.length_append,hli]
     have eL:L2=(L.take i++A')++y::x::(A2++L.drop b):=by rw [hL2]; simp
     have g1:L2[i+(A'.length+1) - 1]?=some y:=by rw [show i+(A'.length+1) - 1=i+A'.length by omega,eL]; exact AM5 p1
     have g2:L2[i+(A'.length+1)]?=some x:=by
      rw [eL,show (L.take i++A')++y::x::(A2++L.drop b)=(L.take i++A'++[y])++x::(A2++L.drop b) by simp]
      exact AM5 (by rw [List.length_append,p1]; rfl)
     have g3:((L2.map enJ).set (i+(A'.length+1)) (enJ y))[i+(A'.length+1) - 1]?=some (enJ y):=by rw [List.getElem?_set_ne (by omega)]; exact AYI g1
     have g4:((L2.map enJ).set (i+(A'.length+1)) (enJ y)).set (i+(A'.length+1) - 1) (enJ x)=(L.take i++(A'++x::(y::A2))++L.drop b).map enJ:=by
      rw [AM8,AM8,show i+(A'.length+1) - 1=i+A'.length by omega,show i+(A'.length+1)=i+A'.length+1 by omega,eL,ASq p1]
      simp
     have l3:(L.take i++(A'++x::(y::A2))++L.drop b).length=N:=by rw [←hl2,hL2]; simp
     have hLb:i+A'.length+1<N:=by rw [←hl2,eL]; simp only [List.length_append,List.length_cons,hli]; omega
     rw [hAl]
     simp -dsimp (disch:=first | assumption | omega | (simp only [Ata];try omega)) only [↓Atf,Atb,Atd,Ate,eq_self,Nat.reduceEqDiff,↓reduceIte,reduceCtorEq,↓AuS,↓AxC,hgg,hss,hl2,g1,g2,g3,g4,Axb,Azv,AEt,AAw,↓reduceIte]
     exact Atk A'.length (by simp) (by simp) ⟨A',y::A2,_,rfl,by rw [hc]; simp,rfl,l3,by rw [show i+(A'.length+1) - 1=i+A'.length by omega]; rfl,by rw [←l3]⟩
end
section
open Go.RowKit
variable [AtQ]
theorem A5Y {L:List EnJ} {a m b s e N id ver mid:Nat} {H:List Ob} {K:TV→List Ob→Prop} (hN:N=L.length) (k1:a≤s) (k2:s≤m) (k3:m≤e) (k4:e≤b) (hb:b≤N) (hl:N≤1000000) (hr:RwJ H id ver L)
  (ham:a≤mid) (hmb:mid≤b) (hse:s+e=mid+m) (hA:ABU ltJ (AtG L a m)) (hB:ABU ltJ (AtG L m b))
  (c1:∀ x y,a<s→e<b→L[s - 1]?=some x→L[e]?=some y→ltJ y x=false)
  (c2:∀ x y,s<m→m<e→L[e - 1]?=some x→L[s]?=some y→ltJ x y=true)
  (rec1:∀ {L1:List EnJ} {H1:List Ob} {K1:TV→List Ob→Prop},N=L1.length→a<s→s<mid→RwJ H1 id ver L1→ABU ltJ (AtG L1 a s)→ABU ltJ (AtG L1 s mid)→(∀ L',Sg ltJ L1 L' a mid→K1 (.tup []) (H1.set id (AH6 ver L')))→Atj Tryd.prog 57 [.os 24 id ver [] 0 N N,i64 (a:Int),i64 (s:Int),i64 (mid:Int),AJP] H1 K1)
  (rec2:∀ {L1:List EnJ} {H1:List Ob} {K1:TV→List Ob→Prop},N=L1.length→mid<e→e<b→RwJ H1 id ver L1→ABU ltJ (AtG L1 mid e)→ABU ltJ (AtG L1 e b)→(∀ L',Sg ltJ L1 L' mid b→K1 (.tup []) (H1.set id (AH6 ver L')))→Atj Tryd.prog 57 [.os 24 id ver [] 0 N N,i64 (mid:Int),i64 (e:Int),i64 (b:Int),AJP] H1 K1)
  (hK:∀ L',Sg ltJ L L' a b→K (.tup []) (H.set id (AH6 ver L'))) :
  vwp Tryd.prog Aub (ABL Ats K) [(0,.os 24 id ver [] 0 N N),(1,i64 (a:Int)),(2,i64 (m:Int)),(3,i64 (b:Int)),(4,AJP),(18,i64 (mid:Int)),(19,i64 ((mid+m:Nat):Int)),(20,i64 (s:Int)),(21,i64 (s:Int)),(22,i64 ((mid+m - 1:Nat):Int))] H:=by
 have hid:=hr.lt
 have hgg:∀ o:Ob,(H.set id o)[id]?=some o:=fun o=>List.getElem?_set_self hid
 have hss:∀ a b:Ob,(H.set id a).set id b=H.set id b:=fun a b=>List.set_set ..
 have hH0:=hr.self
 have hA2:=hA
 have hB2:=hB
 rw [Au0 (l:=L) k1 k2] at hA2
 rw [Au0 (l:=L) k3 k4] at hB2
 have pA:=List.pairwise_append.1 hA2
 have pB:=List.pairwise_append.1 hB2
 have fn0:AuM AJP=false:=by simp [AuM]
 have he:mid+m - s=e:=by omega
 -- behind the turn
 have t29:∀ L1:List EnJ,L1=L.take s++AtG L m e++AtG L s m++L.drop e→∀ E:Env,get E 0 = .os 24 id ver [] 0 N N→get E 1=i64 (a:Int)→get E 3=i64 (b:Int)→get E 4=AJP→get E 18=i64 (mid:Int)→get E 20=i64 (s:Int)→get E 24=i64 (e:Int)→vwp Tryd.prog Aua (ABL Ats K) E (H.set id (AH6 ver L1)):=by
  intro L1 h1 E z0 z1 z3 z4 z18 z20 z24
  obtain ⟨q1,q2,q3,q4,q5⟩:=AXu (L:=L) (a:=a) (b:=b) k1 k2 k3 k4 (by omega) hse h1
  have t28:∀ L2:List EnJ,Sg ltJ L1 L2 a mid→∀ E:Env,get E 0 = .os 24 id ver [] 0 N N→get E 3=i64 (b:Int)→get E 4=AJP→get E 18=i64 (mid:Int)→get E 24=i64 (e:Int)→vwp Tryd.prog Auc (ABL Ats K) E (H.set id (AH6 ver L2)):=by
   intro L2 h2 E w0 w3 w4 w18 w24
   have d1:AtG L2 mid e=AtG L s m:=by rw [h2.after (Nat.le_refl _),q3]
   have d2:AtG L2 e b=AtG L e b:=by rw [h2.after (by omega),q4]
   have fin:∀ L3,Sg ltJ L2 L3 mid b→Sg ltJ L L3 a b:=fun L3 h3=>A0B swJ k1 k2 k3 k4 (by omega) hse hA hB c1 c2 h1 h2 h3
   by_cases g1:mid<e
   ·by_cases g2:e<b
    ·simp -dsimp (disch:=first | assumption | omega | (simp only [Ata];try omega)) only [↓Atf,Atb,Atd,Ate,eq_self,Nat.reduceEqDiff,↓reduceIte,reduceCtorEq,w0,w3,w4,w18,w24,↓At3]
     refine AwK (rec2 (by rw [h2.len,q5]; exact hN) g1 g2 (hgg _) (by rw [d1]; exact pA.2.1) (by rw [d2]; exact pB.2.1) fun L3 h3 => ?_)
     have:=hK L3 (fin L3 h3)
     simp -dsimp (disch:=first | assumption | omega | (simp only [Ata];try omega)) only [↓Atf,Atb,Atd,hss,↓Atv]
     exact this
    ·have e1:e=b:=by omega
     have:=hK L2 (fin L2 (Sg.none (by rw [←e1,d1]; exact pA.2.1)))
     simp -dsimp (disch:=first | assumption | omega | (simp only [Ata];try omega)) only [↓Atf,Atb,Atd,Ate,eq_self,Nat.reduceEqDiff,↓reduceIte,reduceCtorEq,w0,w3,w4,w18,w24,↓At3,↓Atv]
     exact this
   ·have e1:s=m:=by omega
    have e2:mid=e:=by omega
    have:=hK L2 (fin L2 (Sg.none (by rw [e2,d2]; exact pB.2.1)))
    simp -dsimp (disch:=first | assumption | omega | (simp only [Ata];try omega)) only [↓Atf,Atb,Atd,Ate,eq_self,Nat.reduceEqDiff,↓reduceIte,reduceCtorEq,w0,w3,w4,w18,w24,↓At3,↓Atv]
    exact this
  by_cases g1:a<s
  ·by_cases g2:s<mid
   ·simp -dsimp (disch:=first | assumption | omega | (simp only [Ata];try omega)) only [↓Atf,Atb,Atd,Ate,eq_self,Nat.reduceEqDiff,↓reduceIte,reduceCtorEq,z0,z1,z3,z4,z18,z20,z24,↓AtY]
    refine AwK (rec1 (by rw [q5]; exact hN) g1 g2 (hgg _) (by rw [q1]; exact pA.1) (by rw [q2]; exact pB.1) fun L2 h2 => ?_)
    rw [hss]
    simp -dsimp (disch:=first | assumption | omega | (simp only [Ata];try omega)) only [↓Atf,Atb,Atd,Ate,eq_self,Nat.reduceEqDiff,↓reduceIte,reduceCtorEq]
    exact t28 L2 h2 _ rfl rfl rfl rfl rfl
   ·have e1:m=e:=by omega
    have e2:s=mid:=by omega
    have hsg:Sg ltJ L1 L1 a mid:=Sg.none (by rw [←e2,q1]; exact pA.1)
    simp -dsimp (disch:=first | assumption | omega | (simp only [Ata];try omega)) only [↓Atf,Atb,Atd,Ate,eq_self,Nat.reduceEqDiff,↓reduceIte,reduceCtorEq,z0,z1,z3,z4,z18,z20,z24,↓AtY]
    exact t28 L1 hsg _ rfl rfl rfl rfl rfl
  ·have e1:a=s:=by omega
   have hsg:Sg ltJ L1 L1 a mid:=Sg.none (by rw [e1,q2]; exact pB.1)
   simp -dsimp (disch:=first | assumption | omega | (simp only [Ata];try omega)) only [↓Atf,Atb,Atd,Ate,eq_self,Nat.reduceEqDiff,↓reduceIte,reduceCtorEq,z0,z1,z3,z4,z18,z20,z24,↓AtY]
   exact t28 L1 hsg _ rfl rfl rfl rfl rfl
 have hsub:((mid+m:Nat):Int) - (s:Int)=(e:Int):=by omega
 by_cases g1:s<m
 ·by_cases g2:m<e
  ·have lx:(AtG L s m).length=m - s:=Awy (by omega)
   have ly:(AtG L m e).length=e - m:=Awy (by omega)
   have e0:L=L.take s++AtG L s m++AtG L m e++L.drop e:=by
    have:=AHr (l:=L) (by omega:s≤e)
    rw [Au0 (l:=L) k2 k3] at this
    simpa using this
   have hr2:RwJ H id ver (L.take s++AtG L s m++AtG L m e++L.drop e):=by rw [←e0]; exact hr
   simp -dsimp (disch:=first | assumption | omega | (simp only [Ata];try omega)) only [↓Atf,Atb,Atd,Ate,eq_self,Nat.reduceEqDiff,↓reduceIte,reduceCtorEq,↓AtV,↓At4,hsub]
   refine AwK (Bet (P:=L.take s) (X:=AtG L s m) (Y:=AtG L m e) (Q:=L.drop e) fn0 (by rw [←e0]; exact hN) (by simp; omega) (by omega) (by omega) (by omega) (by omega) hl hr2 ?_)
   simp -dsimp (disch:=first | assumption | omega | (simp only [Ata];try omega)) only [↓Atf,Atb,Atd,Ate,eq_self,Nat.reduceEqDiff,↓reduceIte,reduceCtorEq]
   exact t29 _ rfl _ rfl rfl rfl rfl rfl rfl rfl
  ·have e1:m=e:=by omega
   have:=t29 L (AVb k2 k3 (.inr e1))
   rw [←hH0] at this
   simp -dsimp (disch:=first | assumption | omega | (simp only [Ata];try omega)) only [↓Atf,Atb,Atd,Ate,eq_self,Nat.reduceEqDiff,↓reduceIte,reduceCtorEq,↓AtV,↓At4,hsub]
   exact this _ rfl rfl rfl rfl rfl rfl rfl
 ·have e1:s=m:=by omega
  have:=t29 L (AVb k2 k3 (.inl e1))
  rw [←hH0] at this
  simp -dsimp (disch:=first | assumption | omega | (simp only [Ata];try omega)) only [↓Atf,Atb,Atd,Ate,eq_self,Nat.reduceEqDiff,↓reduceIte,reduceCtorEq,↓AtV,↓At4,hsub]
  exact this _ rfl rfl rfl rfl rfl rfl rfl
theorem Bd2:∀ (k:Nat) {L:List EnJ} {a m b N id ver:Nat} {H:List Ob} {K:TV→List Ob→Prop},b - a≤k→N=L.length→a<m→m<b→b≤N→N≤1000000→RwJ H id ver L→ABU ltJ (AtG L a m)→ABU ltJ (AtG L m b) →
  (∀ L',Sg ltJ L L' a b→K (.tup []) (H.set id (AH6 ver L')))→Atj Tryd.prog 57 [.os 24 id ver [] 0 N N,i64 (a:Int),i64 (m:Int),i64 (b:Int),AJP] H K:=by
 intro k
 induction k using Nat.strongRecOn with
 | ind k ih =>
  intro L a m b N id ver H K hk hN ham hmb hb hl hr hA hB hK
  refine Ayg (by simp) ?_
  have hrr:H[id]?=some (AH6 ver L):=hr
  by_cases h1:m=a+1
  ·have h1':m - a=1:=by omega
   simp -dsimp (disch:=first | assumption | omega | (simp only [Ata];try omega)) only [↓Atf,Atb,Atd,Ate,eq_self,Nat.reduceEqDiff,↓reduceIte,Nat.reduceAdd,reduceCtorEq,↓AtN,↓Atx,h1']
   refine A59 hN h1 (by omega) hb hl hr hB fun L' h e => ?_
   have:=hK L' h
   simp -dsimp (disch:=first | assumption | omega | (simp only [Ata];try omega)) only [↓Atf,↓Atv]
   exact this
  have h1':¬ m - a=1:=by omega
  by_cases h2:b=m+1
  ·have h2':b - m=1:=by omega
   simp -dsimp (disch:=first | assumption | omega | (simp only [Ata];try omega)) only [↓Atf,Atb,Atd,Ate,eq_self,Nat.reduceEqDiff,↓reduceIte,Nat.reduceAdd,reduceCtorEq,↓AtN,↓Atx,↓At1,↓AtX,h1',h2']
   refine AXk hN h2 (by omega) hb hl hr hA fun L' h e => ?_
   have:=hK L' h
   simp -dsimp (disch:=first | assumption | omega | (simp only [Ata];try omega)) only [↓Atf,↓Atv]
   exact this
  have h2':¬ b - m=1:=by omega
  have hw:=ARg (n:=a+b) (by omega)
  obtain ⟨mid,hmid⟩:∃ mid,mid=(a+b) / 2 ^ 1:=⟨_,rfl⟩
  have hm1:2*mid≤a+b:=by omega
  have hm2:a+b≤2*mid+1:=by omega
  -- the search,and what follows
  have rest:∀ lo hi:Nat,(lo=a∧hi=m∧m≤mid∨lo=mid+m - b∧hi=mid∧mid<m)→vwp Tryd.prog At7 (ABL Ats K) [(0,.os 24 id ver [] 0 N N),(1,i64 (a:Int)),(2,i64 (m:Int)),(3,i64 (b:Int)),(4,AJP),(18,i64 (mid:Int)),(19,i64 ((mid+m:Nat):Int)),(20,i64 (lo:Int)),(21,i64 (hi:Int))] H:=by
   intro lo hi hlh
   simp -dsimp (disch:=first | assumption | omega | (simp only [Ata];try omega)) only [↓Atf,Atb,Atd,Ate,eq_self,Nat.reduceEqDiff,↓reduceIte,reduceCtorEq,↓Axv,↓Axs]
   refine At5 (fun c e H'=>∃ s r:Nat,c=r - s∧lo≤s∧s≤r∧r≤hi∧(∀ x y,lo<s→L[s - 1]?=some x→L[mid+m - s]?=some y→ltJ y x=false)∧(∀ x y,r<hi→L[mid+m - r - 1]?=some x→L[r]?=some y→ltJ x y=true) ∧
    e=[(0,.os 24 id ver [] 0 N N),(1,i64 (a:Int)),(2,i64 (m:Int)),(3,i64 (b:Int)),(4,AJP),(18,i64 (mid:Int)),(19,i64 ((mid+m:Nat):Int)),(20,i64 (s:Int)),(21,i64 (r:Int)),(22,i64 ((mid+m - 1:Nat):Int))]∧H'=H) (hi - lo) ?_ ?_
   ·exact ⟨lo,hi,rfl,by omega,by omega,by omega,fun x y h=>by omega,fun x y h=>by omega,rfl,rfl⟩
   ·rintro c e H' ⟨s,r,rfl,hs,hsr,hrh,hlo,hhi,rfl,hHH⟩
    subst H'
    by_cases h:s<r
    ·have hw2:=ARg (n:=s+r) (by omega)
     have hc1:s≤(s+r) / 2 ^ 1:=by omega
     have hc2:(s+r) / 2 ^ 1<r:=by omega
     simp -dsimp (disch:=first | assumption | omega | (simp only [Ata];try omega)) only [↓Atf,Atb,Atd,Ate,eq_self,Nat.reduceEqDiff,Nat.reducePow,↓reduceIte,reduceCtorEq,↓AuY,↓Axr,hw2,ALw]
     generalize (s+r) / 2 ^ 1=t at *
     obtain ⟨y,hy⟩:∃ y,L[t]?=some y:=⟨_,List.getElem?_eq_getElem (by omega)⟩
     obtain ⟨x,hx⟩:∃ x,L[mid+m - 1 - t]?=some x:=⟨_,List.getElem?_eq_getElem (by omega)⟩
     have hbx:mid+m - 1 - t<N:=by omega
     have hby:t<N:=by omega
     simp -dsimp (disch:=first | assumption | omega | (simp only [Ata];try omega)) only [↓Atf,Atb,Atd,Ate,eq_self,Nat.reduceEqDiff,↓reduceIte,reduceCtorEq,↓AxA,hrr,hx,hy,Axb,Azv,AGt]
     refine ⟨AOe,?_⟩
     refine AwK ((AUL x y).calls (by simp [Aud,AAw]) fun z hz => ?_)
     subst hz
     by_cases hxy:ltJ x y=true
     ·have h3:=(AHw x y).2 hxy
      simp -dsimp (disch:=first | assumption | omega | (simp only [Ata];try omega)) only [↓Atf,Atb,Atd,Ate,eq_self,Nat.reduceEqDiff,↓reduceIte,reduceCtorEq]
      refine Atk (t - s) (by omega) (by simp) ⟨s,t,rfl,by omega,by omega,by omega,hlo,fun x' y' _ hx' hy' => ?_,rfl,rfl⟩
      rw [show mid+m - t - 1=mid+m - 1 - t by omega,hx] at hx'
      rw [hy] at hy'
      cases hx'; cases hy'
      exact hxy
     ·have h3:¬ A7A x y<0:=fun k=>hxy ((AHw x y).1 k)
      simp -dsimp (disch:=first | assumption | omega | (simp only [Ata];try omega)) only [↓Atf,Atb,Atd,Ate,eq_self,Nat.reduceEqDiff,↓reduceIte,reduceCtorEq]
      refine Atk (r - (t+1)) (by omega) (by simp) ⟨t+1,r,rfl,by omega,by omega,hrh,fun x' y' _ hx' hy' => ?_,hhi,rfl,rfl⟩
      rw [show t+1 - 1=t by omega,hy] at hx'
      rw [show mid+m - (t+1)=mid+m - 1 - t by omega,hx] at hy'
      cases hx'; cases hy'
      exact Bool.eq_false_iff.2 hxy
    ·obtain rfl:s=r:=by omega
     simp -dsimp (disch:=first | assumption | omega | (simp only [Ata];try omega)) only [↓Atf,Atb,Atd,Ate,eq_self,Nat.reduceEqDiff,↓reduceIte,reduceCtorEq,↓AuY]
     refine A5Y (e:=mid+m - s) hN (by omega) (by omega) (by omega) (by omega) hb hl hr (by omega) (by omega) (by omega) hA hB (fun x y g1 g2 gx gy=>hlo x y (by omega) gx gy) (fun x y g1 g2 gx gy=>hhi x y (by omega) gx gy) ?_ ?_ hK
     ·intro L1 H1 K1 q1 q2 q3 q4 q5 q6 q7
      exact ih (mid - a) (by omega) (Nat.le_refl _) q1 q2 q3 (by omega) hl q4 q5 q6 q7
     ·intro L1 H1 K1 q1 q2 q3 q4 q5 q6 q7
      exact ih (b - mid) (by omega) (Nat.le_refl _) q1 q2 q3 (by omega) hl q4 q5 q6 q7
  by_cases h3:mid<m
  ·have:=rest (mid+m - b) mid (.inr ⟨rfl,rfl,h3⟩)
   simp -dsimp (disch:=first | assumption | omega | (simp only [Ata];try omega)) only [↓Atf,Atb,Atd,Ate,eq_self,Nat.reduceEqDiff,Nat.reducePow,↓reduceIte,Nat.reduceAdd,reduceCtorEq,↓AtN,↓Atx,↓At1,↓AtX,h1',h2',↓AuR,↓AuU,↓AuX,↓AuT,hw,ALw,←hmid]
   exact this
  ·have:=rest a m (.inl ⟨rfl,rfl,by omega⟩)
   simp -dsimp (disch:=first | assumption | omega | (simp only [Ata];try omega)) only [↓Atf,Atb,Atd,Ate,eq_self,Nat.reduceEqDiff,Nat.reducePow,↓reduceIte,Nat.reduceAdd,reduceCtorEq,↓AtN,↓Atx,↓At1,↓AtX,h1',h2',↓AuR,↓AuU,↓AuX,↓AuT,hw,ALw,←hmid]
   exact this
end
section
open Go.RowKit
variable [AtQ]
def A9d (L:List EnJ) (s:Nat):Prop:=∀ j,ABU ltJ (AtG L (j*s) (j*s+s))
theorem AVq {L:List EnJ} {x y:Nat} (h:L.length≤x):ABU ltJ (AtG L x y):=by
 unfold AtG
 rw [List.drop_eq_nil_of_le h,List.take_nil]; exact AYN
theorem AOb {L:List EnJ} {x y:Nat} (h:L.length≤y):AtG L x y=AtG L x L.length:=AXr h
structure AUH (L L':List EnJ) (s a k:Nat):Prop where
 at_:a=k*(2*s)
 len:L'.length=L.length
 stb:AzJ ltJ L' L
 done:∀ j,j<k→ABU ltJ (AtG L' (j*(2*s)) (j*(2*s)+2*s))
 left:∀ x j,x=j*s→a≤x→ABU ltJ (AtG L' x (x+s))
theorem AUH.parts {L L':List EnJ} {s a k:Nat} (h:AUH L L' s a k):ABU ltJ (AtG L' a (a+s))∧ABU ltJ (AtG L' (a+s) (a+s+s)):=by
 have e:a=2*k*s:=by rw [h.at_,Nat.mul_left_comm,Nat.mul_assoc]
 refine ⟨h.left a (2*k) e (Nat.le_refl _),h.left (a+s) (2*k+1) ?_ (by omega)⟩
 rw [Nat.add_mul,Nat.one_mul,←e]
theorem AUH.before {s a k j:Nat} (ha:a=k*(2*s)) (hj:j<k):j*(2*s)+2*s≤a:=by
 have:(j+1)*(2*s)≤k*(2*s):=Nat.mul_le_mul_right _ hj
 rw [Nat.add_mul,Nat.one_mul] at this
 omega
theorem AUH.step {L L' L2:List EnJ} {s a k:Nat} (h:AUH L L' s a k) (hg:Sg ltJ L' L2 a (a+2*s)):AUH L L2 s (a+2*s) (k+1):=by
 refine ⟨by rw [Nat.add_mul,Nat.one_mul,←h.at_],hg.len.trans h.len,(hg.whole (by omega)).trans h.stb,fun j hj => ?_,fun x j hx hax => ?_⟩
 ·by_cases e:j=k
  ·subst e; rw [←h.at_]; exact hg.srt
  ·rw [hg.before (AUH.before h.at_ (by omega))]; exact h.done j (by omega)
 ·rw [hg.after hax]; exact h.left x j hx (by omega)
theorem AUH.start {L L':List EnJ} {s:Nat} (h:A9d L' s) (hl:L'.length=L.length) (hs:AzJ ltJ L' L):AUH L L' s 0 0:=⟨by simp,hl,hs,fun j hj=>by omega,fun x j hx _=>by rw [hx]; exact h j⟩
theorem AUH.fin {L L' L2:List EnJ} {s a k n:Nat} (h:AUH L L' s a k) (hn:n=L.length) (han:a≤n) (hb:n<a+2*s) (hg:Sg ltJ L' L2 a n):A9d L2 (2*s):=fun j=>by
 rcases Nat.lt_trichotomy j k with hj | rfl | hj
 ·rw [hg.before (AUH.before h.at_ hj)]; exact h.done j hj
 ·rw [←h.at_,AOb (by rw [hg.len,h.len]; omega),hg.len,h.len,←hn]; exact hg.srt
 ·refine AVq ?_
  have:(k+1)*(2*s)≤j*(2*s):=Nat.mul_le_mul_right _ hj
  rw [Nat.add_mul,Nat.one_mul,←h.at_] at this
  rw [hg.len,h.len]; omega
theorem A53 {L:List EnJ} {N id ver:Nat} {H:List Ob} {K:TV→List Ob→Prop} (hN:N=L.length) (hl:N≤100000) (hr:RwJ H id ver L) (hK:K (.tup []) (H.set id (AH6 ver (AAu ltJ L)))):Atj Tryd.prog 43 [.os 24 id ver [] 0 N N,i64 (N:Int),AJP] H K:=by
 refine Awz (by simp) ?_
 have hid:=hr.lt
 have hgg:∀ o:Ob,(H.set id o)[id]?=some o:=fun o=>List.getElem?_set_self hid
 have hss:∀ a b:Ob,(H.set id a).set id b=H.set id b:=fun a b=>List.set_set ..
 have hH0:=hr.self
 have fn0:AuM AJP=false:=by simp [AuM]
 -- the doubling
 have dbl:∀ L1:List EnJ,A9d L1 20→L1.length=L.length→AzJ ltJ L1 L→vwp Tryd.prog Aup (ABL AuN K) [(0,.os 24 id ver [] 0 N N),(1,i64 (N:Int)),(2,AJP),(6,i64 ((20:Nat):Int))] (H.set id (AH6 ver L1)):=by
  intro L1 hb1 hl1 hs1
  simp -dsimp (disch:=first | assumption | omega | (simp only [Ata];try omega)) only [↓Atf,↓AvJ]
  refine At5 (fun c e H'=>∃ (s:Nat) (L2:List EnJ),c=N - s∧20≤s∧s≤200000∧A9d L2 s∧L2.length=L.length∧AzJ ltJ L2 L∧e=[(0,.os 24 id ver [] 0 N N),(1,i64 (N:Int)),(2,AJP),(6,i64 (s:Int))]∧H'=H.set id (AH6 ver L2)) (N - 20) ?_ ?_
  ·exact ⟨20,L1,rfl,by omega,by omega,hb1,hl1,hs1,rfl,rfl⟩
  ·rintro c e H' ⟨s,L2,rfl,hs20,hs2,hb2,hl2,hst2,rfl,rfl⟩
   by_cases h:s<N
   case neg =>
    have hL2:L2=AAu ltJ L:=by
     refine AXq swJ ?_ hst2
     have:=hb2 0
     rw [Nat.zero_mul,Nat.zero_add,A0Q (by omega)] at this
     exact this
    rw [hL2]
    simp -dsimp (disch:=first | assumption | omega | (simp only [Ata];try omega)) only [↓Atf,Atb,Atd,Ate,eq_self,Nat.reduceEqDiff,↓reduceIte,reduceCtorEq,↓Aui,↓Awr]
    exact hK
   simp -dsimp (disch:=first | assumption | omega | (simp only [Ata];try omega)) only [↓Atf,Atb,Atd,Ate,eq_self,Nat.reduceEqDiff,↓reduceIte,reduceCtorEq,↓Aui,↓AvE,↓AvF]
   refine At5 (fun c e H'=>∃ (a k:Nat) (L3:List EnJ),c=N+1 - a∧a≤N∧AUH L L3 s a k∧e=[(0,.os 24 id ver [] 0 N N),(1,i64 (N:Int)),(2,AJP),(6,i64 (s:Int)),(7,i64 (a:Int)),(8,i64 ((a+2*s:Nat):Int))]∧H'=H.set id (AH6 ver L3)) (N+1) ?_ ?_
   ·exact ⟨0,0,L2,rfl,by omega,AUH.start hb2 hl2 hst2,by rw [Nat.zero_add]; rfl,rfl⟩
   ·rintro c e H' ⟨a,k,L3,rfl,haN,hd,rfl,rfl⟩
    obtain ⟨d1,d2⟩:=hd.parts
    have hl3:=hd.len
    by_cases h3:a+2*s≤N
    ·simp -dsimp (disch:=first | assumption | omega | (simp only [Ata];try omega)) only [↓Atf,Atb,Atd,Ate,eq_self,Nat.reduceEqDiff,↓reduceIte,reduceCtorEq,↓AtJ,↓AvA]
     rw [show a+s+s=a+2*s by omega] at d2
     refine AwK (Bd2 _ (Nat.le_refl _) (by omega) (by omega) (by omega) h3 (by omega) (hgg _) d1 d2 fun L4 h4 => ?_)
     rw [hss]
     have hd2:=hd.step h4
     simp -dsimp (disch:=first | assumption | omega | (simp only [Ata];try omega)) only [↓Atf,Atb,Atd,Ate,eq_self,Nat.reduceEqDiff,↓reduceIte,reduceCtorEq]
     exact Atk (N+1 - (a+2*s)) (by omega) (by simp) ⟨a+2*s,k+1,L4,rfl,h3,hd2,rfl,rfl⟩
    ·by_cases h4:a+s<N
     ·simp -dsimp (disch:=first | assumption | omega | (simp only [Ata];try omega)) only [↓Atf,Atb,Atd,Ate,eq_self,Nat.reduceEqDiff,↓reduceIte,reduceCtorEq,↓AtJ,↓Auh]
      have d3:ABU ltJ (AtG L3 (a+s) N):=by
       have:=AOb (L:=L3) (x:=a+s) (y:=a+s+s) (by omega)
       rw [hl3,←hN] at this
       rw [←this]; exact d2
      refine AwK (Bd2 _ (Nat.le_refl _) (by omega) (by omega) h4 (by omega) (by omega) (hgg _) d1 d3 fun L4 h5 => ?_)
      rw [hss]
      have hb4:=hd.fin hN haN (by omega) h5
      have hw4:=h5.whole haN
      simp -dsimp (disch:=first | assumption | omega | (simp only [Ata];try omega)) only [↓Atf,Atb,Atd,Ate,eq_self,Nat.reduceEqDiff,↓reduceIte,reduceCtorEq]
      exact Atk (N - s*2) (by omega) (by simp) ⟨s*2,L4,rfl,by omega,by omega,by rw [Nat.mul_comm]; exact hb4,by rw [h5.len,hl3],hw4.trans hd.stb,rfl,rfl⟩
     ·have h5:Sg ltJ L3 L3 a N:=Sg.none (by
       have:=AOb (L:=L3) (x:=a) (y:=a+s) (by omega)
       rw [hl3,←hN] at this
       rw [←this]; exact d1)
      have hb4:=hd.fin hN haN (by omega) h5
      simp -dsimp (disch:=first | assumption | omega | (simp only [Ata];try omega)) only [↓Atf,Atb,Atd,Ate,eq_self,Nat.reduceEqDiff,↓reduceIte,reduceCtorEq,↓AtJ,↓Auh]
      exact Atk (N - s*2) (by omega) (by simp) ⟨s*2,L3,rfl,by omega,by omega,by rw [Nat.mul_comm]; exact hb4,hl3,hd.stb,rfl,rfl⟩
 simp -dsimp (disch:=first | assumption | omega | (simp only [Ata];try omega)) only [↓Atf,Atb,Atd,Ate,eq_self,Nat.reduceEqDiff,↓reduceIte,Nat.reduceAdd,reduceCtorEq,↓Awo,↓Avn,↓Ave]
 refine At5 (fun c e H'=>∃ (k:Nat) (L1:List EnJ),c=N+1 - k*20∧k*20≤N∧L1.length=L.length∧AzJ ltJ L1 L∧(∀ j,j<k→ABU ltJ (AtG L1 (j*20) (j*20+20))) ∧
  e=[(0,.os 24 id ver [] 0 N N),(1,i64 (N:Int)),(2,AJP),(6,i64 ((20:Nat):Int)),(7,i64 ((k*20:Nat):Int)),(8,i64 ((k*20+20:Nat):Int))]∧H'=H.set id (AH6 ver L1)) (N+1) ?_ ?_
 ·exact ⟨0,L,by omega,by omega,rfl,AzJ.refl _,fun j hj=>by omega,rfl,hH0⟩
 ·rintro c e H' ⟨k,L1,rfl,hkN,hl1,hs1,hb1,rfl,rfl⟩
  by_cases h:k*20+20≤N
  ·simp -dsimp (disch:=first | assumption | omega | (simp only [Ata];try omega)) only [↓Atf,Atb,Atd,Ate,eq_self,Nat.reduceEqDiff,↓reduceIte,reduceCtorEq,↓Aug]
   refine AwK (BdY (by omega) (by omega) h (by omega) (hgg _) fun L2 h2 => ?_)
   rw [hss]
   have hw2:=h2.whole (by omega)
   have e1:k*20+20=(k+1)*20:=by omega
   simp -dsimp (disch:=first | assumption | omega | (simp only [Ata];try omega)) only [↓Atf,Atb,Atd,Ate,eq_self,Nat.reduceEqDiff,↓reduceIte,reduceCtorEq]
   refine Atk (N+1 - (k+1)*20) (by omega) (by simp) ⟨k+1,L2,rfl,by omega,h2.len.trans hl1,hw2.trans hs1,fun j hj => ?_,by rw [←e1]; rfl,rfl⟩
   by_cases e:j=k
   ·subst e; exact h2.srt
   ·rw [h2.before (by omega)]; exact hb1 j (by omega)
  ·simp -dsimp (disch:=first | assumption | omega | (simp only [Ata];try omega)) only [↓Atf,Atb,Atd,Ate,eq_self,Nat.reduceEqDiff,↓reduceIte,reduceCtorEq,↓Aug,↓AvM]
   refine AwK (BdY (by omega) hkN (Nat.le_refl _) (by omega) (hgg _) fun L2 h2 => ?_)
   rw [hss]
   have hw2:=h2.whole hkN
   have hall:A9d L2 20:=fun j=>by
    rcases Nat.lt_trichotomy j k with hj | rfl | hj
    ·rw [h2.before (by omega)]; exact hb1 j hj
    ·rw [AOb (by rw [h2.len,hl1]; omega),h2.len,hl1,←hN]; exact h2.srt
    ·exact AVq (by rw [h2.len,hl1]; omega)
   have:=dbl L2 hall (h2.len.trans hl1) (hw2.trans hs1)
   simp -dsimp (disch:=first | assumption | omega | (simp only [Ata];try omega)) only [↓Atf,Atb,Atd,Ate,eq_self,Nat.reduceEqDiff,↓reduceIte,reduceCtorEq]
   exact this
theorem AUj {L:List EnJ} {N id ver:Nat} {H:List Ob} {K:TV→List Ob→Prop} (hN:N=L.length) (hl:N≤100000) (hr:RwJ H id ver L) (hK:K (.tup []) (H.set id (AH6 ver (AAu ltJ L)))):Atj Tryd.prog 27 [.os 24 id ver [] 0 N N,AJP] H K:=by
 refine Auu (by simp) ?_
 have fn0:AuM AJP=false:=by simp [AuM]
 simp -dsimp (disch:=first | assumption | omega | (simp only [Ata];try omega)) only [↓Atf,Atb,Atd,Ate,eq_self,Nat.reduceEqDiff,↓reduceIte,Nat.reduceAdd,reduceCtorEq,↓Atu]
 refine AwK (A53 hN hl hr ?_)
 simp -dsimp (disch:=first | assumption | omega | (simp only [Ata];try omega)) only [↓Atf,Atb,Atd,Ate,Nat.reduceAdd,↓Atu]
 exact hK
end
section
open Go.RowKit
variable [AtQ]
variable {P:Program}
def ATu (P:Program) (f:FuncId) (args:List TV) (R:TV→Prop) (RP:Value→Prop):Prop :=
 ∀ (β:Nat→Nat→Option (Nat×Nat)) (F:Nat→Prop) (w:World) (vs:List Value),((∀ b,F b→b<w.heap.size)∧ABr F w)→Aue ⟨β,[],F⟩ w args vs →
  Calls P f vs.toArray w fun e w'=>∃ F',AGc F w F' w'∧((∃ v x,e = .returned v∧R x∧Rep ⟨β,[],fun b=>F' b∧w.heap.size≤b⟩ w' x v)∨∃ u,e = .panicked [{ v:=u,recovered:=false }]∧RP u)
theorem ATu.mono {f:FuncId} {args:List TV} {R R':TV→Prop} {RP RP':Value→Prop} (h:ATu P f args R RP) (hr:∀ x,R x→R' x) (hp:∀ u,RP u→RP' u):ATu P f args R' RP' :=
 fun β F w vs hF hv=>(h β F w vs hF hv).mono fun _ _ ⟨F',h1,h2⟩=>⟨F',h1,h2.imp (fun ⟨v,x,k1,k2,k3⟩=>⟨v,x,k1,hr _ k2,k3⟩) fun ⟨u,k1,k2⟩=>⟨u,k1,hp _ k2⟩⟩
def AXd (x x':TV):Prop:=∀ (c:Ctx) (w:World) (v:Value),AWx c w x v→AWx c w x' v
inductive AOs:List TV→List TV→Prop
 | nil:AOs [] []
 | cons {x x':TV} {xs xs':List TV}:AXd x x'→AOs xs xs'→AOs (x::xs) (x'::xs')
theorem AXd.refl {x:TV}:AXd x x:=fun _ _ _ h=>h
theorem AOs.refl:∀ {xs:List TV},AOs xs xs
 | [] => .nil
 | _::_ => .cons AXd.refl AOs.refl
theorem AOs.rep {c:Ctx} {w:World} {xs xs':List TV} (h:AOs xs xs'):∀ {vs:List Value},Aue c w xs vs→Aue c w xs' vs:=by
 induction h with
 | nil=>exact fun h=>h
 | cons h1 h2 ih =>
  intro vs hv
  rw [Aue.cons] at hv ⊢
  obtain ⟨u,us,rfl,k1,k2⟩:=hv
  exact ⟨u,us,rfl,h1 _ _ _ k1,ih k2⟩
theorem AQK {k:Nat}:AXd (.val (.slice none 0 0)) (.sl k []):=fun c w v h=>by
 have hv:v = .slice none 0 0:=by
  have h':Rep c w (.val (.slice none 0 0)) v := .inl h
  rw [Rep.val] at h'; exact h'
 subst hv
 refine .inr (.inr ⟨[.slice none 0 0],?_,rfl⟩)
 rw [Ath]
 exact ⟨by simp,.inl ⟨rfl,none,0,rfl,by omega⟩⟩
theorem Auk.argL {f:FuncId} {args args':List TV} {R:TV→Prop} (h:Auk P f args' R) (hc:AOs args args'):Auk P f args R :=
 fun β F w vs hF hv=>h β F w vs hF (hc.rep hv)
theorem Auk.conv {f:FuncId} {args:List TV} {R R':TV→Prop} (h:Auk P f args R) (hc:∀ x,R x→∃ x',R' x'∧∀ c w v,Rep c w x v→Rep c w x' v):Auk P f args R' :=
 fun β F w vs hF hv=>(h β F w vs hF hv).mono fun _ _ ⟨v,x,F',h1,h2,h3,h4⟩=>by
  obtain ⟨x',k1,k2⟩:=hc x h2
  exact ⟨v,x',F',h1,k1,k2 _ _ _ h3,h4⟩
theorem AOs.tup {xs xs':List TV} (h:AOs xs xs'):∀ (c:Ctx) (w:World) (v:Value),Rep c w (.tup xs) v→Rep c w (.tup xs') v:=by
 rintro c w v ((h1 | h1 | ⟨us,h1,_⟩) | ⟨ys,vs,h1,h2,h3⟩)
 ·cases h1
 ·cases h1
 ·rw [Ath] at h1; exact h1.elim
 ·cases h1
  exact .inr ⟨xs',vs,rfl,h2,h.rep h3⟩
end
section
open Go.RowKit
variable [AtQ]
theorem A9w {l:List EnJ} (hlen:l.length≤100000) {H:List Ob} {K:TV→List Ob→Prop} (h0:l=[]→K (.val (.slice none 0 0)) H) (h1:K (.os 24 H.length 1 [] 0 l.length l.length) (H++[.obj 1 (.arr l.length 24 (l.map enJ))])) :
  Atj Tryd.prog 26 [.sl 24 (l.map enJ)] H K:=by
 refine Ayh (by simp) ?_
 by_cases hn:l=[]
 ·subst hn
  simp -dsimp (disch:=first | assumption | omega | (simp only [Ata];try omega)) only [↓Atf,Atb,Atd,Ate,eq_self,↓reduceIte,reduceCtorEq,↓AtT]
  refine AUg ?_ ?_
  ·simp -dsimp (disch:=first | assumption | omega | (simp only [Ata];try omega)) only [↓Atf,Atb,Atd,Ate,eq_self,↓reduceIte,reduceCtorEq,↓AtT]
   exact h0 rfl
  ·simp -dsimp (disch:=first | assumption | omega | (simp only [Ata];try omega)) only [↓Atf,Atb,Atd,Ate,eq_self,Nat.reduceEqDiff,Nat.reduceMul,↓reduceIte,reduceCtorEq,↓AtT]
   simpa using h1
 ·have hn0:l.length≠0:=fun e=>hn (List.length_eq_zero_iff.1 e)
  simp -dsimp (disch:=first | assumption | omega | (simp only [Ata];try omega)) only [↓Atf,Atb,Atd,Ate,eq_self,Nat.reduceEqDiff,↓reduceIte,reduceCtorEq,↓AtT]
  simpa using h1
theorem AY5 {H:List Ob} {K:TV→List Ob→Prop} (hK:K (.tup []) H):Atj Tryd.prog 27 [.val (.slice none 0 0),AJP] H K:=by
 refine Auu (by simp) ?_
 have fn0:AuM AJP=false:=by simp [AuM]
 simp -dsimp (disch:=first | assumption | omega | (simp only [Ata];try omega)) only [↓Atf,Atb,Atd,Ate,eq_self,Nat.reduceEqDiff,↓reduceIte,Nat.reduceAdd,reduceCtorEq,↓Atu]
 refine Awz (by simp) ?_
 simp -dsimp (disch:=first | assumption | omega | (simp only [Ata];try omega)) only [↓Atf,Atb,Atd,Ate,eq_self,Nat.reduceEqDiff,↓reduceIte,Nat.reduceAdd,reduceCtorEq,↓At6]
 refine At5 (fun c e H'=>c=0∧e=[(0,.val (.slice none 0 0)),(1,i64 ((0:Nat):Int)),(2,AJP),(6,i64 ((20:Nat):Int)),(7,i64 ((0:Nat):Int)),(8,i64 ((20:Nat):Int))]∧H'=H) 0 ?_ ?_
 ·exact ⟨rfl,rfl,rfl⟩
 ·rintro c e H' ⟨rfl,rfl,rfl⟩
  simp -dsimp (disch:=first | assumption | omega | (simp only [Ata];try omega)) only [↓Atf,Atb,Atd,Ate,eq_self,Nat.reduceEqDiff,↓reduceIte,reduceCtorEq,Nat.reduceLeDiff,↓At6]
  refine AuW (by simp) ?_
  simp -dsimp (disch:=first | assumption | omega | (simp only [Ata];try omega)) only [↓Atf,Atb,Atd,Ate,eq_self,Nat.reduceEqDiff,↓reduceIte,Nat.reduceAdd,reduceCtorEq,↓Atg]
  refine At5 (fun c e H2=>c=0∧e=[(0,.val (.slice none 0 0)),(1,i64 ((0:Nat):Int)),(2,i64 ((0:Nat):Int)),(3,AJP),(8,i64 ((1:Nat):Int))]∧H2=H') 0 ?_ ?_
  ·exact ⟨rfl,rfl,rfl⟩
  ·rintro c e H2 ⟨rfl,rfl,rfl⟩
   simp -dsimp (disch:=first | assumption | omega | (simp only [Ata];try omega)) only [↓Atf,Atb,Atd,Ate,eq_self,Nat.reduceLT,Nat.reduceEqDiff,↓reduceIte,reduceCtorEq,↓Atg,↓At6]
   refine At5 (fun c e H3=>c=0∧e=[(0,.val (.slice none 0 0)),(1,i64 ((0:Nat):Int)),(2,AJP),(6,i64 ((20:Nat):Int))]∧H3=H2) 0 ?_ ?_
   ·exact ⟨rfl,rfl,rfl⟩
   ·rintro c e H3 ⟨rfl,rfl,rfl⟩
    simp -dsimp (disch:=first | assumption | omega | (simp only [Ata];try omega)) only [↓Atf,Atb,Atd,Ate,eq_self,Nat.reduceLT,Nat.reduceEqDiff,↓reduceIte,reduceCtorEq,↓At6,↓Atu]
    exact hK
def SlJ (l:List EnJ) (x:TV):Prop:=x = .sl 24 (l.map enJ)∨(l=[]∧x = .val (.slice none 0 0))
theorem A6c (l:List EnJ) (hl:l.length≤100000):Auk Tryd.prog 12 [.sl 24 (l.map enJ)] (SlJ (AAu ltJ l)):=by
 refine Atj.toPureV (APl (by simp) ?_)
 have hsl:(AAu ltJ l).length=l.length:=(AuA l).length_eq
 simp -dsimp (disch:=first | assumption | omega | (simp only [Ata];try omega)) only [↓Atf,Atb,Atd,Ate,eq_self,↓reduceIte,reduceCtorEq,↓ACx]
 refine AwK (A9w hl (fun h0 => ?_) ?_)
 ·subst h0
  simp -dsimp (disch:=first | assumption | omega | (simp only [Ata];try omega)) only [↓Atf,Atb,Atd,Ate,eq_self,↓reduceIte]
  refine AwK (AY5 ?_)
  simp -dsimp (disch:=first | assumption | omega | (simp only [Ata];try omega)) only [↓Atf,Atb,Atd,Ate,eq_self,↓reduceIte,reduceCtorEq,↓ACx]
  exact .inr ⟨rfl,rfl⟩
 ·simp -dsimp (disch:=first | assumption | omega | (simp only [Ata];try omega)) only [↓Atf,Atb,Atd,Ate,eq_self,↓reduceIte]
  refine AwK (AUj rfl hl (L:=l) rfl ?_)
  simp -dsimp (disch:=first | assumption | omega | (simp only [Ata];try omega)) only [↓Atf,Atb,Atd,Ate,eq_self,↓reduceIte,reduceCtorEq,↓ACx]
  exact .inl rfl
theorem SlJ.read {l:List EnJ} {x:TV} (h:SlJ l x):∀ c w v,Rep c w x v→Rep c w (.sl 24 (l.map enJ)) v:=by
 rcases h with rfl | ⟨rfl,rfl⟩
 ·exact fun c w v h=>h
 ·intro c w v h
  rcases h with h | ⟨xs,vs,h,_⟩
  ·exact .inl (AQK c w v h)
  ·cases h
theorem AZs (l:List EnJ) (hl:l.length≤100000):Auk Tryd.prog 12 [.sl 24 (l.map enJ)] (fun r=>r = .sl 24 ((AAu ltJ l).map enJ)) :=
 (A6c l hl).conv fun x hx=>⟨_,rfl,hx.read⟩
end
section
variable [AtQ]
set_option maxRecDepth 100000
def AAi:Atc := .seq (.ops [mv_ 17 3,mv_ 18 17,⟨some 19,.p (.fieldA 3 22 (.t 1)),some ⟨18,true⟩⟩,⟨some 20,.p (.load false 1 (.t 19)),some ⟨18,true⟩⟩,⟨some 21,.p (.bin 3 .geq (.t 20) (ci_ 0)),some ⟨18,true⟩⟩,po_ 22 (.pick (.t 18) (.t 21) (.c (.bool false))),mv_ 23 22,⟨some 24,.p (.fieldA 3 22 (.t 1)),some ⟨23,true⟩⟩,⟨some 25,.p (.load false 1 (.t 24)),some ⟨23,true⟩⟩,⟨some 26,.p (.bin 3 .leq (.t 25) (ci_ 100000)),some ⟨23,true⟩⟩,po_ 27 (.pick (.t 23) (.t 26) (.c (.bool false))),mv_ 28 27,⟨some 29,.p (.fieldA 4 23 (.t 1)),some ⟨28,true⟩⟩,⟨some 30,.p (.load false 1 (.t 29)),some ⟨28,true⟩⟩,⟨some 31,.p (.bin 3 .geq (.t 30) (ci_ 0)),some ⟨28,true⟩⟩,po_ 32 (.pick (.t 28) (.t 31) (.c (.bool false))),mv_ 33 32,⟨some 34,.p (.fieldA 4 23 (.t 1)),some ⟨33,true⟩⟩,⟨some 35,.p (.load false 1 (.t 34)),some ⟨33,true⟩⟩,⟨some 36,.p (.bin 3 .leq (.t 35) (ci_ 3)),some ⟨33,true⟩⟩,po_ 37 (.pick (.t 33) (.t 36) (.c (.bool false))),mv_ 2 37] [2])
 (.ret)
def ADw:Atc := .seq (.ops [po_ 4 (.fieldA 1 1 (.t 1)),po_ 5 (.load false 1 (.t 4)),po_ 6 (.bin 28 .eql (.t 5) (ci_ 33188)),mv_ 7 6,⟨some 8,.p (.fieldA 1 1 (.t 1)),some ⟨7,false⟩⟩,⟨some 9,.p (.load false 1 (.t 8)),some ⟨7,false⟩⟩,⟨some 10,.p (.bin 28 .eql (.t 9) (ci_ 33261)),some ⟨7,false⟩⟩,po_ 11 (.pick (.t 7) (.c (.bool true)) (.t 10)),mv_ 12 11,⟨some 13,.p (.fieldA 1 1 (.t 1)),some ⟨12,false⟩⟩,⟨some 14,.p (.load false 1 (.t 13)),some ⟨12,false⟩⟩,⟨some 15,.p (.bin 28 .eql (.t 14) (ci_ 40960)),some ⟨12,false⟩⟩,po_ 16 (.pick (.t 12) (.c (.bool true)) (.t 15)),mv_ 3 16] [1,3])
 AAi
def AIF:Atc := .seq (.ops [so_ 1 (.box (.t 0)),po_ 2 (.mov (.c (.bool false)))] [1])
 ADw
def ACK:List VR:=[.tmp 2]
theorem APP:Tryd.f25.body.bind (trC Tryd.prog Tryd.f25.ntmps)=some (er AIF):=by kernel_rfl
theorem APV:trR Tryd.prog Tryd.f25.results.toList=some ACK:=by kernel_rfl
def AuP:=As8 AAi.eq_1
def Ayj:=As8 ADw.eq_1
def AA0:=As8 AIF.eq_1
theorem Awu {K:TV→Prop} {e:Env} {H:List Ob}:res ACK e H K=res [.tmp 2] e H K:=As9 rfl
def AOy:=Awn 38 Tryd.func25 APP APV rfl
def AFR:Atc := .seq (.ops [po_ 15 (.bin 3 .lss (.t 14) (.t 13))] [0,12,13,14,15])
 (.seq (.cond (.t 15)
 (.skip)
 (.exit 0))
 (.seq (.block 1 (.seq (.ops [po_ 16 (.idxA 24 (.t 12) (.t 14)),po_ 17 (.load true 24 (.t 16)),so_ 4 (.alloc (.agg [.val (.string (str [])),.val (.int .i64 ((0:Nat):Int)),.arr 20 1 [.val (.int .u8 ((0:Nat):Int)),.val (.int .u8 ((0:Nat):Int)),.val (.int .u8 ((0:Nat):Int)),.val (.int .u8 ((0:Nat):Int)),.val (.int .u8 ((0:Nat):Int)),.val (.int .u8 ((0:Nat):Int)),.val (.int .u8 ((0:Nat):Int)),.val (.int .u8 ((0:Nat):Int)),.val (.int .u8 ((0:Nat):Int)),.val (.int .u8 ((0:Nat):Int)),.val (.int .u8 ((0:Nat):Int)),.val (.int .u8 ((0:Nat):Int)),.val (.int .u8 ((0:Nat):Int)),.val (.int .u8 ((0:Nat):Int)),.val (.int .u8 ((0:Nat):Int)),.val (.int .u8 ((0:Nat):Int)),.val (.int .u8 ((0:Nat):Int)),.val (.int .u8 ((0:Nat):Int)),.val (.int .u8 ((0:Nat):Int)),.val (.int .u8 ((0:Nat):Int))],.val (.int .i64 ((0:Nat):Int)),.val (.int .i64 ((0:Nat):Int))])),⟨none,.s (.store 24 (.t 4) (.t 17)),none⟩] [0,4,12,13,14])
 (.seq (.ops [po_ 18 (.fieldA 0 0 (.t 4)),po_ 19 (.load false 1 (.t 18)),so_ 20 (.call 24 [.t 19]),po_ 21 (.un .not (.t 20))] [0,12,13,14,21])
 (.cond (.t 21)
 (.seq (.ops [po_ 22 (.iface 38 (ci_ 71)),mv_ 2 22] [2])
  (.ret))
 (.skip)))))
 (.ops [po_ 23 (.bin 3 .add (.t 14) (ci_ 1)),mv_ 14 23] [0,12,13,14])))
def AF2:Atc := .block 0 (.loop [0,12,13,14] AFR)
def AF9:Atc := .seq (.seq (.draw 29 [po_ 36 (.load true 24 (.t 8)),so_ 37 (.call 25 [.t 36]),po_ 38 (.un .not (.t 37)),mv_ 39 38,⟨some 40,.p (.mov (.t 7)),some ⟨39,false⟩⟩,⟨some 41,.p (.bin 3 .gtr (.t 40) (ci_ 0)),some ⟨39,false⟩⟩,⟨some 42,.p (.mov (.t 41)),some ⟨39,false⟩⟩,⟨some 43,.p (.mov (.t 5)),some ⟨42,true⟩⟩,⟨some 44,.p (.mov (.t 7)),some ⟨42,true⟩⟩,⟨some 45,.p (.bin 3 .sub (.t 44) (ci_ 1)),some ⟨42,true⟩⟩,⟨some 46,.p (.idxA 24 (.t 43) (.t 45)),some ⟨42,true⟩⟩,⟨some 47,.p (.fieldA 0 0 (.t 46)),some ⟨42,true⟩⟩,⟨some 48,.p (.load false 1 (.t 47)),some ⟨42,true⟩⟩,⟨some 49,.p (.fieldA 0 0 (.t 8)),some ⟨42,true⟩⟩,⟨some 50,.p (.load false 1 (.t 49)),some ⟨42,true⟩⟩,⟨some 51,.p (.bin 9 .eql (.t 48) (.t 50)),some ⟨42,true⟩⟩,⟨some 52,.p (.pick (.t 42) (.t 51) (.c (.bool false))),some ⟨39,false⟩⟩,⟨some 53,.p (.mov (.t 52)),some ⟨39,false⟩⟩,⟨some 54,.p (.mov (.t 5)),some ⟨53,true⟩⟩,⟨some 55,.p (.mov (.t 7)),some ⟨53,true⟩⟩,⟨some 56,.p (.bin 3 .sub (.t 55) (ci_ 1)),some ⟨53,true⟩⟩,⟨some 57,.p (.idxA 24 (.t 54) (.t 56)),some ⟨53,true⟩⟩,⟨some 58,.p (.fieldA 4 23 (.t 57)),some ⟨53,true⟩⟩,⟨some 59,.p (.load false 1 (.t 58)),some ⟨53,true⟩⟩,⟨some 60,.p (.fieldA 4 23 (.t 8)),some ⟨53,true⟩⟩,⟨some 61,.p (.load false 1 (.t 60)),some ⟨53,true⟩⟩,⟨some 62,.p (.bin 3 .eql (.t 59) (.t 61)),some ⟨53,true⟩⟩,⟨some 63,.p (.mov (.t 62)),some ⟨53,true⟩⟩,⟨some 64,.p (.mov (.t 5)),some ⟨63,false⟩⟩,⟨some 65,.p (.mov (.t 7)),some ⟨63,false⟩⟩,⟨some 66,.p (.bin 3 .sub (.t 65) (ci_ 1)),some ⟨63,false⟩⟩,⟨some 67,.p (.idxA 24 (.t 64) (.t 66)),some ⟨63,false⟩⟩,⟨some 68,.p (.fieldA 4 23 (.t 67)),some ⟨63,false⟩⟩,⟨some 69,.p (.load false 1 (.t 68)),some ⟨63,false⟩⟩,⟨some 70,.p (.bin 3 .eql (.t 69) (ci_ 0)),some ⟨63,false⟩⟩,⟨some 71,.p (.pick (.t 63) (.c (.bool true)) (.t 70)),some ⟨53,true⟩⟩,⟨some 72,.p (.pick (.t 53) (.t 71) (.c (.bool false))),some ⟨39,false⟩⟩,po_ 73 (.pick (.t 39) (.c (.bool true)) (.t 72))] [0,5,6,8,29,30,31,73])
 (.cond (.t 73)
 (.seq (.ops [po_ 74 (.iface 38 (ci_ 70)),mv_ 2 74] [2])
  (.ret))
 (.skip)))
 (.ops [mv_ 75 6,po_ 76 (.fieldA 0 0 (.t 8)),po_ 77 (.load false 1 (.t 76)),po_ 78 (.gen (.look .str (.val (.int .i64 ((0:Nat):Int))) false) [.t 75,.t 77]),po_ 79 (.bin 3 .add (.t 78) (ci_ 1)),⟨none,.s (.mupd .str (.t 75) (.t 77) (.t 79)),none⟩] [0,5,6,29,30,31])
def AF8:Atc := .seq (.block 3 (.seq (.ops [mv_ 33 31,po_ 34 (.idxA 24 (.t 29) (.t 31)),po_ 35 (.load true 24 (.t 34)),so_ 8 (.alloc (.agg [.val (.string (str [])),.val (.int .i64 ((0:Nat):Int)),.arr 20 1 [.val (.int .u8 ((0:Nat):Int)),.val (.int .u8 ((0:Nat):Int)),.val (.int .u8 ((0:Nat):Int)),.val (.int .u8 ((0:Nat):Int)),.val (.int .u8 ((0:Nat):Int)),.val (.int .u8 ((0:Nat):Int)),.val (.int .u8 ((0:Nat):Int)),.val (.int .u8 ((0:Nat):Int)),.val (.int .u8 ((0:Nat):Int)),.val (.int .u8 ((0:Nat):Int)),.val (.int .u8 ((0:Nat):Int)),.val (.int .u8 ((0:Nat):Int)),.val (.int .u8 ((0:Nat):Int)),.val (.int .u8 ((0:Nat):Int)),.val (.int .u8 ((0:Nat):Int)),.val (.int .u8 ((0:Nat):Int)),.val (.int .u8 ((0:Nat):Int)),.val (.int .u8 ((0:Nat):Int)),.val (.int .u8 ((0:Nat):Int)),.val (.int .u8 ((0:Nat):Int))],.val (.int .i64 ((0:Nat):Int)),.val (.int .i64 ((0:Nat):Int))])),mv_ 7 33,⟨none,.s (.store 24 (.t 8) (.t 35)),none⟩] [0,5,6,7,8,29,30,31])
 AF9))
 (.ops [po_ 80 (.bin 3 .add (.t 31) (ci_ 1)),mv_ 31 80] [0,5,6,29,30,31])
def AFd:Atc := .seq (.cond (.t 32)
 (.skip)
 (.exit 2))
 AF8
def AE7:Atc := .seq (.ops [po_ 32 (.bin 3 .lss (.t 31) (.t 30))] [0,5,6,29,30,31,32])
 AFd
def AFr:Atc := .block 2 (.loop [0,5,6,29,30,31] AE7)
def AFS:Atc := .block 7 (.seq (.ops [po_ 95 (.ext 1 (.t 93)),po_ 96 (.ext 2 (.t 93)),mv_ 10 95,mv_ 11 96] [6,9,10,11,86,92])
 (.seq (.ops [mv_ 97 11,po_ 98 (.bin 21 .eql (.t 97) (.c (.int .i32 ((47:Nat):Int)))),mv_ 99 98,⟨some 100,.p (.mov (.t 6)),some ⟨99,true⟩⟩,⟨some 101,.p (.mov (.t 9)),some ⟨99,true⟩⟩,⟨some 102,.p (.mov (.t 10)),some ⟨99,true⟩⟩,⟨some 103,.p (.slS (.t 101) none (some (.t 102))),some ⟨99,true⟩⟩,⟨some 104,.p (.gen (.look .str (.val (.int .i64 ((0:Nat):Int))) false) [.t 100,.t 103]),some ⟨99,true⟩⟩,⟨some 105,.p (.bin 3 .gtr (.t 104) (ci_ 0)),some ⟨99,true⟩⟩,po_ 106 (.pick (.t 99) (.t 105) (.c (.bool false)))] [6,9,86,92,106])
 (.cond (.t 106)
 (.seq (.ops [po_ 107 (.iface 38 (ci_ 71)),mv_ 2 107] [2])
  (.ret))
 (.skip))))
def AFM:Atc := .seq (.cond (.t 94)
 (.skip)
 (.exit 6))
 AFS
def ADv:Atc := .seq (.ops [so_ 93 (.nxtS (.t 92)),po_ 94 (.ext 0 (.t 93))] [6,9,86,92,93,94])
 AFM
def AAd:Atc := .block 6 (.loop [6,9,86,92] ADv)
def ADC:Atc := .seq (.ops [mv_ 91 9,so_ 92 (.rngS (.t 91))] [6,9,86,92])
 AAd
def ADF:Atc := .block 5 (.seq (.ops [po_ 89 (.gen .entM [.t 86]),po_ 90 (.ext 0 (.t 89)),mv_ 9 90] [6,9,86])
 ADC)
def ADZ:Atc := .seq (.cond (.t 88)
 (.skip)
 (.exit 4))
 ADF
def ADr:Atc := .seq (.ops [so_ 87 (.nxtM (.t 86)),po_ 88 (.ext 0 (.t 87))] [6,86,88])
 ADZ
def ADy:Atc := .block 4 (.loop [6,86] ADr)
def AD3:Atc := .seq (.ops [po_ 2 (.mov (.c .nilIface))] [2])
 (.ret)
def ADg:Atc := .seq (.seq (.ops [mv_ 85 6,so_ 86 (.rngM (.t 85))] [6,86])
 ADy)
 AD3
def AxT:Atc := .seq (.seq (.ops [mv_ 81 0,po_ 82 (.lenV (.t 81)),po_ 83 (.bin 3 .gtr (.t 82) (ci_ 2000))] [6,83])
 (.cond (.t 83)
 (.seq (.ops [po_ 84 (.iface 38 (ci_ 70)),mv_ 2 84] [2])
  (.ret))
 (.skip)))
 ADg
def ADf:Atc := .seq (.seq (.ops [mv_ 29 5,po_ 30 (.lenV (.t 29)),po_ 31 (.mov (ci_ 0))] [0,5,6,29,30,31])
 AFr)
 AxT
def AAb:Atc := .seq (.ops [mv_ 26 5,po_ 27 (.lenV (.t 26)),so_ 28 (.mkm .str (some (.t 27))),mv_ 6 28] [0,5,6])
 ADf
def AAr:Atc := .seq (.ops [mv_ 24 0,so_ 25 (.call 12 [.t 24]),mv_ 5 25] [0,5])
 AAb
def AAl:Atc := .seq (.seq (.ops [mv_ 12 0,po_ 13 (.lenV (.t 12)),po_ 14 (.mov (ci_ 0))] [0,12,13,14])
 AF2)
 AAr
def AKV:Atc := .seq (.ops [po_ 2 (.mov (.c .nilIface))] [0])
 AAl
def Aw4:List VR:=[.tmp 2]
theorem ARh:Tryd.f10.body.bind (trC Tryd.prog Tryd.f10.ntmps)=some (er AKV):=by kernel_rfl
theorem AQJ:trR Tryd.prog Tryd.f10.results.toList=some Aw4:=by kernel_rfl
def AB8:=As8 AFR.eq_1
def ALp:=As8 AF2.eq_1
def AKn:=As8 AF9.eq_1
def ALh:=As8 AF8.eq_1
def ABR:=As8 AFd.eq_1
def ABQ:=As8 AE7.eq_1
def AKW:=As8 AFr.eq_1
def Axl:=As8 AFS.eq_1
def AwA:=As8 AFM.eq_1
def Av0:=As8 ADv.eq_1
def AJL:=As8 AAd.eq_1
def AI6:=As8 ADC.eq_1
def AJa:=As8 ADF.eq_1
def ABE:=As8 ADZ.eq_1
def AJb:=As8 ADr.eq_1
def AJp:=As8 ADy.eq_1
def AJk:=As8 AD3.eq_1
def AJO:=As8 ADg.eq_1
def AJI:=As8 AxT.eq_1
def AJD:=As8 ADf.eq_1
def AJs:=As8 AAb.eq_1
def AJm:=As8 AAr.eq_1
def AJH:=As8 AAl.eq_1
def AOl:=As8 AKV.eq_1
theorem AwM {K:TV→Prop} {e:Env} {H:List Ob}:res Aw4 e H K=res [.tmp 2] e H K:=As9 rfl
def APF:=Awn 108 Tryd.func10 ARh AQJ rfl
def AGA:Atc := .seq (.block 1 (.seq (.ops [mv_ 18 0,mv_ 19 3,po_ 20 (.idxA 24 (.t 18) (.t 19)),po_ 21 (.fieldA 0 0 (.t 20)),po_ 22 (.load false 1 (.t 21)),so_ 23 (.call 32 [.t 22]),mv_ 4 23] [0,3,4])
 (.seq (.ops [mv_ 24 4,po_ 25 (.un .not (.t 24))] [0,3,25])
 (.cond (.t 25)
 (.seq (.ops [po_ 2 (.mov (ci_ 71))] [2])
  (.ret))
 (.skip)))))
 (.ops [mv_ 16 3,po_ 17 (.bin 3 .add (.t 16) (ci_ 1)),mv_ 3 17] [0,3])
def AHN:Atc := .seq (.seq (.ops [mv_ 12 3,mv_ 13 0,po_ 14 (.lenV (.t 13)),po_ 15 (.bin 3 .lss (.t 12) (.t 14))] [0,3,15])
 (.cond (.t 15)
 (.skip)
 (.exit 0)))
 AGA
def AHe:Atc := .block 0 (.loop [0,3] AHN)
def AGR:Atc := .seq (.block 5 (.seq (.draw 19 [mv_ 77 0,mv_ 78 7,po_ 79 (.idxA 24 (.t 77) (.t 78)),po_ 80 (.fieldA 0 0 (.t 79)),po_ 81 (.load false 1 (.t 80)),po_ 82 (.fieldA 0 0 (.t 6)),po_ 83 (.load false 1 (.t 82)),po_ 84 (.bin 9 .eql (.t 81) (.t 83)),mv_ 85 84,⟨some 86,.p (.mov (.t 0)),some ⟨85,true⟩⟩,⟨some 87,.p (.mov (.t 7)),some ⟨85,true⟩⟩,⟨some 88,.p (.idxA 24 (.t 86) (.t 87)),some ⟨85,true⟩⟩,⟨some 89,.p (.fieldA 4 23 (.t 88)),some ⟨85,true⟩⟩,⟨some 90,.p (.load false 1 (.t 89)),some ⟨85,true⟩⟩,⟨some 91,.p (.fieldA 4 23 (.t 6)),some ⟨85,true⟩⟩,⟨some 92,.p (.load false 1 (.t 91)),some ⟨85,true⟩⟩,⟨some 93,.p (.bin 3 .eql (.t 90) (.t 92)),some ⟨85,true⟩⟩,⟨some 94,.p (.mov (.t 93)),some ⟨85,true⟩⟩,⟨some 95,.p (.mov (.t 0)),some ⟨94,false⟩⟩,⟨some 96,.p (.mov (.t 7)),some ⟨94,false⟩⟩,⟨some 97,.p (.idxA 24 (.t 95) (.t 96)),some ⟨94,false⟩⟩,⟨some 98,.p (.fieldA 4 23 (.t 97)),some ⟨94,false⟩⟩,⟨some 99,.p (.load false 1 (.t 98)),some ⟨94,false⟩⟩,⟨some 100,.p (.bin 3 .eql (.t 99) (ci_ 0)),some ⟨94,false⟩⟩,⟨some 101,.p (.pick (.t 94) (.c (.bool true)) (.t 100)),some ⟨85,true⟩⟩,⟨some 102,.p (.mov (.t 101)),some ⟨85,true⟩⟩,⟨some 103,.p (.fieldA 4 23 (.t 6)),some ⟨102,false⟩⟩,⟨some 104,.p (.load false 1 (.t 103)),some ⟨102,false⟩⟩,⟨some 105,.p (.bin 3 .eql (.t 104) (ci_ 0)),some ⟨102,false⟩⟩,⟨some 106,.p (.pick (.t 102) (.c (.bool true)) (.t 105)),some ⟨85,true⟩⟩,po_ 107 (.pick (.t 85) (.t 106) (.c (.bool false)))] [0,5,6,7,107])
 (.cond (.t 107)
 (.seq (.ops [po_ 2 (.mov (ci_ 70))] [2])
  (.ret))
 (.skip))))
 (.ops [mv_ 75 7,po_ 76 (.bin 3 .add (.t 75) (ci_ 1)),mv_ 7 76] [0,5,6,7])
def AHh:Atc := .seq (.seq (.ops [mv_ 72 7,mv_ 73 5,po_ 74 (.bin 3 .lss (.t 72) (.t 73))] [0,5,6,7,74])
 (.cond (.t 74)
 (.skip)
 (.exit 4)))
 AGR
def AHL:Atc := .block 4 (.loop [0,5,6,7] AHh)
def ABw:Atc := .seq (.ops [po_ 7 (.mov (ci_ 0))] [0,5,6,7])
 AHL
def AG7:Atc := .seq (.seq (.ops [po_ 39 (.fieldA 1 1 (.t 6)),po_ 40 (.load false 1 (.t 39)),po_ 41 (.bin 3 .neq (.t 40) (ci_ 33188)),mv_ 42 41,⟨some 43,.p (.fieldA 1 1 (.t 6)),some ⟨42,true⟩⟩,⟨some 44,.p (.load false 1 (.t 43)),some ⟨42,true⟩⟩,⟨some 45,.p (.bin 3 .neq (.t 44) (ci_ 33261)),some ⟨42,true⟩⟩,po_ 46 (.pick (.t 42) (.t 45) (.c (.bool false))),mv_ 47 46,⟨some 48,.p (.fieldA 1 1 (.t 6)),some ⟨47,true⟩⟩,⟨some 49,.p (.load false 1 (.t 48)),some ⟨47,true⟩⟩,⟨some 50,.p (.bin 3 .neq (.t 49) (ci_ 40960)),some ⟨47,true⟩⟩,po_ 51 (.pick (.t 47) (.t 50) (.c (.bool false))),mv_ 52 51,⟨some 53,.p (.fieldA 3 22 (.t 6)),some ⟨52,false⟩⟩,⟨some 54,.p (.load false 1 (.t 53)),some ⟨52,false⟩⟩,⟨some 55,.p (.bin 3 .lss (.t 54) (ci_ 0)),some ⟨52,false⟩⟩,po_ 56 (.pick (.t 52) (.c (.bool true)) (.t 55)),mv_ 57 56,⟨some 58,.p (.fieldA 3 22 (.t 6)),some ⟨57,false⟩⟩,⟨some 59,.p (.load false 1 (.t 58)),some ⟨57,false⟩⟩,⟨some 60,.p (.bin 3 .gtr (.t 59) (ci_ 100000)),some ⟨57,false⟩⟩,po_ 61 (.pick (.t 57) (.c (.bool true)) (.t 60)),mv_ 62 61,⟨some 63,.p (.fieldA 4 23 (.t 6)),some ⟨62,false⟩⟩,⟨some 64,.p (.load false 1 (.t 63)),some ⟨62,false⟩⟩,⟨some 65,.p (.bin 3 .lss (.t 64) (ci_ 0)),some ⟨62,false⟩⟩,po_ 66 (.pick (.t 62) (.c (.bool true)) (.t 65)),mv_ 67 66,⟨some 68,.p (.fieldA 4 23 (.t 6)),some ⟨67,false⟩⟩,⟨some 69,.p (.load false 1 (.t 68)),some ⟨67,false⟩⟩,⟨some 70,.p (.bin 3 .gtr (.t 69) (ci_ 3)),some ⟨67,false⟩⟩,po_ 71 (.pick (.t 67) (.c (.bool true)) (.t 70))] [0,5,6,71])
 (.cond (.t 71)
 (.seq (.ops [po_ 2 (.mov (ci_ 70))] [2])
  (.ret))
 (.skip)))
 ABw
def ABD:Atc := .ops [mv_ 33 5,po_ 34 (.bin 3 .add (.t 33) (ci_ 1)),mv_ 5 34] [0,5]
def AFz:Atc := .seq (.block 3 (.seq (.ops [mv_ 35 0,mv_ 36 5,po_ 37 (.idxA 24 (.t 35) (.t 36)),po_ 38 (.load true 24 (.t 37)),so_ 6 (.alloc (.agg [.val (.string (str [])),.val (.int .i64 ((0:Nat):Int)),.arr 20 1 [.val (.int .u8 ((0:Nat):Int)),.val (.int .u8 ((0:Nat):Int)),.val (.int .u8 ((0:Nat):Int)),.val (.int .u8 ((0:Nat):Int)),.val (.int .u8 ((0:Nat):Int)),.val (.int .u8 ((0:Nat):Int)),.val (.int .u8 ((0:Nat):Int)),.val (.int .u8 ((0:Nat):Int)),.val (.int .u8 ((0:Nat):Int)),.val (.int .u8 ((0:Nat):Int)),.val (.int .u8 ((0:Nat):Int)),.val (.int .u8 ((0:Nat):Int)),.val (.int .u8 ((0:Nat):Int)),.val (.int .u8 ((0:Nat):Int)),.val (.int .u8 ((0:Nat):Int)),.val (.int .u8 ((0:Nat):Int)),.val (.int .u8 ((0:Nat):Int)),.val (.int .u8 ((0:Nat):Int)),.val (.int .u8 ((0:Nat):Int)),.val (.int .u8 ((0:Nat):Int))],.val (.int .i64 ((0:Nat):Int)),.val (.int .i64 ((0:Nat):Int))])),⟨none,.s (.store 24 (.t 6) (.t 38)),none⟩] [0,5,6])
 AG7))
 ABD
def AEU:Atc := .seq (.seq (.ops [mv_ 29 5,mv_ 30 0,po_ 31 (.lenV (.t 30)),po_ 32 (.bin 3 .lss (.t 29) (.t 31))] [0,5,32])
 (.cond (.t 32)
 (.skip)
 (.exit 2)))
 AFz
def AFE:Atc := .block 2 (.loop [0,5] AEU)
def AFy:Atc := .seq (.ops [mv_ 131 11,po_ 132 (.lenS (.t 131)),mv_ 133 10,po_ 134 (.lenS (.t 133)),po_ 135 (.bin 3 .gtr (.t 132) (.t 134)),mv_ 136 135,⟨some 137,.p (.mov (.t 11)),some ⟨136,true⟩⟩,⟨some 138,.p (.mov (.t 10)),some ⟨136,true⟩⟩,⟨some 139,.p (.lenS (.t 138)),some ⟨136,true⟩⟩,⟨some 140,.p (.slS (.t 137) none (some (.t 139))),some ⟨136,true⟩⟩,⟨some 141,.p (.mov (.t 10)),some ⟨136,true⟩⟩,⟨some 142,.p (.bin 9 .eql (.t 140) (.t 141)),some ⟨136,true⟩⟩,po_ 143 (.pick (.t 136) (.t 142) (.c (.bool false)))] [0,8,9,143])
 (.cond (.t 143)
 (.seq (.ops [po_ 2 (.mov (ci_ 71))] [2])
  (.ret))
 (.skip))
def AE4:Atc := .seq (.ops [mv_ 126 0,mv_ 127 9,po_ 128 (.idxA 24 (.t 126) (.t 127)),po_ 129 (.fieldA 0 0 (.t 128)),po_ 130 (.load false 1 (.t 129)),mv_ 11 130] [0,8,9,10,11])
 AFy
def AE9:Atc := .seq (.block 9 (.seq (.ops [mv_ 120 0,mv_ 121 8,po_ 122 (.idxA 24 (.t 120) (.t 121)),po_ 123 (.fieldA 0 0 (.t 122)),po_ 124 (.load false 1 (.t 123)),po_ 125 (.bin 9 .add (.t 124) (.c (.string (str [47])))),mv_ 10 125] [0,8,9,10])
 AE4))
 (.ops [mv_ 118 9,po_ 119 (.bin 3 .add (.t 118) (ci_ 1)),mv_ 9 119] [0,8,9])
def AFp:Atc := .seq (.seq (.ops [mv_ 114 9,mv_ 115 0,po_ 116 (.lenV (.t 115)),po_ 117 (.bin 3 .lss (.t 114) (.t 116))] [0,8,9,117])
 (.cond (.t 117)
 (.skip)
 (.exit 8)))
 AE9
def AE2:Atc := .block 8 (.loop [0,8,9] AFp)
def AFf:Atc := .ops [mv_ 112 8,po_ 113 (.bin 3 .add (.t 112) (ci_ 1)),mv_ 8 113] [0,8]
def AE0:Atc := .seq (.block 7 (.seq (.ops [po_ 9 (.mov (ci_ 0))] [0,8,9])
 AE2))
 AFf
def AEN:Atc := .seq (.seq (.ops [mv_ 108 8,mv_ 109 0,po_ 110 (.lenV (.t 109)),po_ 111 (.bin 3 .lss (.t 108) (.t 110))] [0,8,111])
 (.cond (.t 111)
 (.skip)
 (.exit 6)))
 AE0
def AFi:Atc := .block 6 (.loop [0,8] AEN)
def AFQ:Atc := .seq (.ops [po_ 2 (.mov (ci_ 0))] [2])
 (.ret)
def Axa:Atc := .seq (.seq (.ops [po_ 8 (.mov (ci_ 0))] [0,8])
 AFi)
 AFQ
def Ayc:Atc := .seq (.seq (.ops [po_ 5 (.mov (ci_ 0))] [0,5])
 AFE)
 Axa
def AFg:Atc := .seq (.seq (.ops [mv_ 26 0,po_ 27 (.lenV (.t 26)),po_ 28 (.bin 3 .gtr (.t 27) (ci_ 2000))] [0,28])
 (.cond (.t 28)
 (.seq (.ops [po_ 2 (.mov (ci_ 70))] [2])
  (.ret))
 (.skip)))
 Ayc
def AA4:Atc := .seq (.seq (.ops [po_ 3 (.mov (ci_ 0))] [0,3])
 AHe)
 AFg
def ANv:Atc := .seq (.ops [po_ 2 (.mov (ci_ 0))] [0])
 AA4
def AwZ:List VR:=[.tmp 2]
theorem ASa:Tryd.f14.body.bind (trC Tryd.prog Tryd.f14.ntmps)=some (er ANv):=by kernel_rfl
theorem ASJ:trR Tryd.prog Tryd.f14.results.toList=some AwZ:=by kernel_rfl
def AM0:=As8 AGA.eq_1
def AEi:=As8 AHN.eq_1
def ALS:=As8 AHe.eq_1
def AwQ:=As8 AGR.eq_1
def AvW:=As8 AHh.eq_1
def AMU:=As8 AHL.eq_1
def ALR:=As8 ABw.eq_1
def Atn:=As8 AG7.eq_1
def AMV:=As8 ABD.eq_1
def AKE:=As8 AFz.eq_1
def ACg:=As8 AEU.eq_1
def AK1:=As8 AFE.eq_1
def Ay0:=As8 AFy.eq_1
def Ay5:=As8 AE4.eq_1
def AyP:=As8 AE9.eq_1
def Axj:=As8 AFp.eq_1
def AKL:=As8 AE2.eq_1
def AJV:=As8 AFf.eq_1
def ALE:=As8 AE0.eq_1
def ABO:=As8 AEN.eq_1
def ALN:=As8 AFi.eq_1
def AJZ:=As8 AFQ.eq_1
def AKN:=As8 Axa.eq_1
def AK9:=As8 Ayc.eq_1
def AKZ:=As8 AFg.eq_1
def AKP:=As8 AA4.eq_1
def APq:=As8 ANv.eq_1
theorem Atr {K:TV→Prop} {e:Env} {H:List Ob}:res AwZ e H K=res [.tmp 2] e H K:=As9 rfl
def AQ7:=Awn 144 Tryd.func14 ASa ASJ rfl
end
section
open Go.RowKit
variable [AtQ]
theorem AYo {a p:List UInt8}:(a++[47]) <+: p↔p[a.length]?=some 47∧p.take a.length=a:=by
 constructor
 ·rintro ⟨t,rfl⟩
  simp
 ·rintro ⟨h1,h2⟩
  obtain ⟨h3,h4⟩:=List.getElem?_eq_some_iff.1 h1
  refine ⟨p.drop (a.length+1),?_⟩
  conv=>rhs; rw [←List.take_append_drop a.length p,List.drop_eq_getElem_cons h3,h4,h2]
  simp
def AWs (ps:List (List UInt8)) (p:List UInt8) (n:Nat):Prop:=∃ i,i<n∧p[i]?=some 47∧p.take i∈ps
theorem AUZ {l:List EnJ} {y:EnJ}:(∃ x∈l,AQf x y)↔AWs (l.map (·.path)) y.path y.path.length:=by
 constructor
 ·rintro ⟨x,hx,hs⟩
  obtain ⟨h1,h2⟩:=AYo.1 hs
  exact ⟨x.path.length,(List.getElem?_eq_some_iff.1 h1).1,h1,by rw [h2]; exact List.mem_map_of_mem hx⟩
 ·rintro ⟨i,hi,h1,h2⟩
  obtain ⟨x,hx,e⟩:=List.mem_map.1 h2
  refine ⟨x,hx,AYo.2 ?_⟩
  have hl:x.path.length=i:=by rw [e]; simp; omega
  rw [hl]
  exact ⟨h1,e.symm⟩
end
section
variable [AtQ]
set_option maxRecDepth 100000
def ADE:Atc := .ops [mv_ 3 9] [2,3]
def AEe:Atc := .block 1 (.seq (.ops [mv_ 10 3,so_ 11 (.call 42 [.t 10]),po_ 12 (.un .not (.t 11))] [2,12])
 (.cond (.t 12)
 (.seq (.ops [⟨none,.s (.store 1 (.t 2) (.c (.bool false))),none⟩] [])
  (.ret))
 (.skip)))
def ADM:Atc := .seq (.ops [⟨none,.s (.store 1 (.t 2) (.c (.bool true))),none⟩] [2])
 (.ret)
def AIS:Atc := .seq (.ops [so_ 2 (.alloc (.val (.bool false)))] [0,2])
 (.seq (.seq (.ops [mv_ 4 0,po_ 5 (.lenS (.t 4)),po_ 6 (.bin 3 .gtr (.t 5) (ci_ 100))] [0,2,6])
 (.cond (.t 6)
 (.seq (.ops [⟨none,.s (.store 1 (.t 2) (.c (.bool false))),none⟩] [2])
  (.ret))
 (.skip)))
 (.seq (.seq (.ops [mv_ 7 0,so_ 8 (.call 41 [.t 7,.c (.string (str [47]))])] [2,8])
 (.block 0 (.rfunc (.t 8) [9] ADE AEe)))
 ADM))
def AIt:List VR:=[.cell 2 false 1]
theorem APR:Tryd.f24.body.bind (trC Tryd.prog Tryd.f24.ntmps)=some (er AIS):=by kernel_rfl
theorem AP1:trR Tryd.prog Tryd.f24.results.toList=some AIt:=by kernel_rfl
def AI5:=As8 ADE.eq_1
def AJB:=As8 AEe.eq_1
def AJz:=As8 ADM.eq_1
def ANG:=As8 AIS.eq_1
theorem AN8 {K:TV→Prop} {e:Env} {H:List Ob}:res AIt e H K=res [.cell 2 false 1] e H K:=As9 rfl
def AvT:=(aI_ (aI_ (aI_ @AI5 @AJB) (aI_ @AJz @ANG)) @AN8)
def AGB:=Awn 13 Tryd.func24 APR AP1 rfl
def AFw:Atc := .seq (.block 1 (.seq (.seq (.ops [mv_ 15 4,mv_ 16 0,po_ 17 (.lenS (.t 16)),po_ 18 (.bin 3 .lss (.t 15) (.t 17)),mv_ 19 18,⟨some 20,.p (.mov (.t 0)),some ⟨19,true⟩⟩,⟨some 21,.p (.mov (.t 4)),some ⟨19,true⟩⟩,⟨some 22,.p (.idxS (.t 20) (.t 21)),some ⟨19,true⟩⟩,⟨some 23,.p (.bin 5 .neq (.t 22) (.c (.int .u8 ((47:Nat):Int)))),some ⟨19,true⟩⟩,po_ 24 (.pick (.t 19) (.t 23) (.c (.bool false)))] [0,3,4,24])
 (.cond (.t 24)
 (.exit 1)
 (.skip)))
 (.seq (.ops [mv_ 25 0,mv_ 26 3,mv_ 27 4,po_ 28 (.slS (.t 25) (some (.t 26)) (some (.t 27))),so_ 29 (.call 48 [.t 28]),mv_ 5 29] [0,4,5])
 (.seq (.seq (.ops [mv_ 30 5,po_ 31 (.un .not (.t 30))] [0,4,31])
 (.cond (.t 31)
 (.seq (.ops [po_ 2 (.mov (.c (.bool false)))] [2])
  (.ret))
 (.skip)))
 (.ops [mv_ 32 4,po_ 33 (.bin 3 .add (.t 32) (ci_ 1)),mv_ 3 33] [0,3,4])))))
 (.ops [mv_ 13 4,po_ 14 (.bin 3 .add (.t 13) (ci_ 1)),mv_ 4 14] [0,3,4])
def AFA:Atc := .seq (.seq (.ops [mv_ 9 4,mv_ 10 0,po_ 11 (.lenS (.t 10)),po_ 12 (.bin 3 .leq (.t 9) (.t 11))] [0,3,4,12])
 (.cond (.t 12)
 (.skip)
 (.exit 0)))
 AFw
def AF5:Atc := .block 0 (.loop [0,3,4] AFA)
def AFJ:Atc := .seq (.ops [po_ 2 (.mov (.c (.bool true)))] [2])
 (.ret)
def AFC:Atc := .seq (.seq (.ops [po_ 4 (.mov (ci_ 0))] [0,3,4])
 AF5)
 AFJ
def AFa:Atc := .seq (.ops [po_ 3 (.mov (ci_ 0))] [0,3])
 AFC
def AFP:Atc := .seq (.seq (.ops [mv_ 6 0,po_ 7 (.lenS (.t 6)),po_ 8 (.bin 3 .gtr (.t 7) (ci_ 100))] [0,8])
 (.cond (.t 8)
 (.seq (.ops [po_ 2 (.mov (.c (.bool false)))] [2])
  (.ret))
 (.skip)))
 AFa
def AJ5:Atc := .seq (.ops [po_ 2 (.mov (.c (.bool false)))] [0])
 AFP
def AJ2:List VR:=[.tmp 2]
theorem AQO:Tryd.f32.body.bind (trC Tryd.prog Tryd.f32.ntmps)=some (er AJ5):=by kernel_rfl
theorem ARO:trR Tryd.prog Tryd.f32.results.toList=some AJ2:=by kernel_rfl
def AKh:=As8 AFw.eq_1
def AKf:=As8 AFA.eq_1
def AKU:=As8 AF5.eq_1
def ALK:=As8 AFJ.eq_1
def ALk:=As8 AFC.eq_1
def AKa:=As8 AFa.eq_1
def AKQ:=As8 AFP.eq_1
def APf:=As8 AJ5.eq_1
theorem AOP {K:TV→Prop} {e:Env} {H:List Ob}:res AJ2 e H K=res [.tmp 2] e H K:=As9 rfl
def AvQ:=(aI_ (aI_ (aI_ (aI_ @AKh @AKf) (aI_ @AKU @ALK)) (aI_ (aI_ @ALk @AKa) (aI_ @AKQ @APf))) @AOP)
def AIR:=Awn 34 Tryd.func32 AQO ARO rfl
def ABP:Atc := .seq (.seq (.ops [mv_ 3 0] [0,3])
 (.block 0 (.seq (.seq (.ops [po_ 5 (.bin 9 .eql (.t 3) (.c (.string (str [])))),mv_ 4 5] [0,3,4])
 (.cond (.t 4)
 (.skip)
 (.seq (.ops [po_ 6 (.bin 9 .eql (.t 3) (.c (.string (str [46])))),mv_ 4 6] [0,3,4])
  (.cond (.t 4)
  (.skip)
  (.seq (.ops [po_ 7 (.bin 9 .eql (.t 3) (.c (.string (str [46,46])))),mv_ 4 7] [0,3,4])
   (.cond (.t 4)
   (.skip)
   (.ops [po_ 8 (.bin 9 .eql (.t 3) (.c (.string (str [46,103,105,116])))),mv_ 4 8] [0,4])))))))
 (.cond (.t 4)
 (.seq (.ops [po_ 2 (.mov (.c (.bool false)))] [2])
  (.ret))
 (.skip)))))
 (.seq (.ops [mv_ 9 0,po_ 10 (.lenS (.t 9)),po_ 11 (.bin 3 .leq (.t 10) (ci_ 50)),mv_ 12 11,⟨some 13,.p (.mov (.t 0)),some ⟨12,true⟩⟩,⟨some 14,.s (.call 55 [.t 13,.c (.string (str [47,0]))]),some ⟨12,true⟩⟩,⟨some 15,.p (.un .not (.t 14)),some ⟨12,true⟩⟩,po_ 16 (.pick (.t 12) (.t 15) (.c (.bool false))),mv_ 2 16] [2])
 (.ret))
def AHJ:Atc := .seq (.ops [po_ 2 (.mov (.c (.bool false)))] [0])
 ABP
def AG5:List VR:=[.tmp 2]
theorem APc:Tryd.f42.body.bind (trC Tryd.prog Tryd.f42.ntmps)=some (er AHJ):=by kernel_rfl
theorem AOB:trR Tryd.prog Tryd.f42.results.toList=some AG5:=by kernel_rfl
def AIi:=As8 ABP.eq_1
def ALV:=As8 AHJ.eq_1
theorem AMh {K:TV→Prop} {e:Env} {H:List Ob}:res AG5 e H K=res [.tmp 2] e H K:=As9 rfl
def Av7:=(aI_ (aI_ @AIi @ALV) @AMh)
def ANL:=Awn 17 Tryd.func42 APc AOB rfl
def AFH:Atc := .seq (.block 1 (.seq (.ops [mv_ 30 0,mv_ 31 3,po_ 32 (.idxS (.t 30) (.t 31)),po_ 33 (.bin 5 .eql (.t 32) (.c (.int .u8 ((0:Nat):Int)))),mv_ 34 33,⟨some 35,.p (.mov (.t 0)),some ⟨34,false⟩⟩,⟨some 36,.p (.mov (.t 3)),some ⟨34,false⟩⟩,⟨some 37,.p (.idxS (.t 35) (.t 36)),some ⟨34,false⟩⟩,⟨some 38,.p (.bin 5 .eql (.t 37) (.c (.int .u8 ((47:Nat):Int)))),some ⟨34,false⟩⟩,po_ 39 (.pick (.t 34) (.c (.bool true)) (.t 38))] [0,3,39])
 (.cond (.t 39)
 (.seq (.ops [po_ 2 (.mov (.c (.bool false)))] [2])
  (.ret))
 (.skip))))
 (.ops [mv_ 28 3,po_ 29 (.bin 3 .add (.t 28) (ci_ 1)),mv_ 3 29] [0,3])
def AFm:Atc := .seq (.seq (.ops [mv_ 24 3,mv_ 25 0,po_ 26 (.lenS (.t 25)),po_ 27 (.bin 3 .lss (.t 24) (.t 26))] [0,3,27])
 (.cond (.t 27)
 (.skip)
 (.exit 0)))
 AFH
def AFh:Atc := .block 0 (.loop [0,3] AFm)
def AFl:Atc := .seq (.ops [po_ 2 (.mov (.c (.bool true)))] [2])
 (.ret)
def AEX:Atc := .seq (.seq (.ops [po_ 3 (.mov (ci_ 0))] [0,3])
 AFh)
 AFl
def AFW:Atc := .seq (.seq (.ops [mv_ 4 0,po_ 5 (.lenS (.t 4)),po_ 6 (.bin 3 .lss (.t 5) (ci_ 1)),mv_ 7 6,⟨some 8,.p (.mov (.t 0)),some ⟨7,false⟩⟩,⟨some 9,.p (.lenS (.t 8)),some ⟨7,false⟩⟩,⟨some 10,.p (.bin 3 .gtr (.t 9) (ci_ 50)),some ⟨7,false⟩⟩,po_ 11 (.pick (.t 7) (.c (.bool true)) (.t 10)),mv_ 12 11,⟨some 13,.p (.mov (.t 0)),some ⟨12,false⟩⟩,⟨some 14,.p (.bin 9 .eql (.t 13) (.c (.string (str [46])))),some ⟨12,false⟩⟩,po_ 15 (.pick (.t 12) (.c (.bool true)) (.t 14)),mv_ 16 15,⟨some 17,.p (.mov (.t 0)),some ⟨16,false⟩⟩,⟨some 18,.p (.bin 9 .eql (.t 17) (.c (.string (str [46,46])))),some ⟨16,false⟩⟩,po_ 19 (.pick (.t 16) (.c (.bool true)) (.t 18)),mv_ 20 19,⟨some 21,.p (.mov (.t 0)),some ⟨20,false⟩⟩,⟨some 22,.p (.bin 9 .eql (.t 21) (.c (.string (str [46,103,105,116])))),some ⟨20,false⟩⟩,po_ 23 (.pick (.t 20) (.c (.bool true)) (.t 22))] [0,23])
 (.cond (.t 23)
 (.seq (.ops [po_ 2 (.mov (.c (.bool false)))] [2])
  (.ret))
 (.skip)))
 AEX
def ALJ:Atc := .seq (.ops [po_ 2 (.mov (.c (.bool false)))] [0])
 AFW
def AKI:List VR:=[.tmp 2]
theorem AQS:Tryd.f48.body.bind (trC Tryd.prog Tryd.f48.ntmps)=some (er ALJ):=by kernel_rfl
theorem AQG:trR Tryd.prog Tryd.f48.results.toList=some AKI:=by kernel_rfl
def AJ0:=As8 AFH.eq_1
def AKm:=As8 AFm.eq_1
def AJ3:=As8 AFh.eq_1
def ALG:=As8 AFl.eq_1
def ALs:=As8 AEX.eq_1
def ALH:=As8 AFW.eq_1
def AO1:=As8 ALJ.eq_1
theorem APo {K:TV→Prop} {e:Env} {H:List Ob}:res AKI e H K=res [.tmp 2] e H K:=As9 rfl
def Au1:=(aI_ (aI_ (aI_ @AJ0 @AKm) (aI_ @AJ3 @ALG)) (aI_ (aI_ @ALs @ALH) (aI_ @AO1 @APo)))
def AP3:=Awn 40 Tryd.func48 AQS AQG rfl
def AAB:Atc := .seq (.ops [po_ 4 (.mov (.c (.bool false)))] [0,1])
 (.seq (.ops [mv_ 5 0,mv_ 6 1,so_ 7 (.call 65 [.t 5,.t 6]),po_ 8 (.bin 3 .geq (.t 7) (ci_ 0)),mv_ 4 8] [4])
 (.ret))
def AAA:List VR:=[.tmp 4]
theorem AGo:Tryd.f55.body.bind (trC Tryd.prog Tryd.f55.ntmps)=some (er AAB):=by kernel_rfl
theorem AHD:trR Tryd.prog Tryd.f55.results.toList=some AAA:=by kernel_rfl
def AEB:=As8 AAB.eq_1
theorem AEH {K:TV→Prop} {e:Env} {H:List Ob}:res AAA e H K=res [.tmp 4] e H K:=As9 rfl
def AAz:=(aI_ @AEB @AEH)
def AGb:=Awn 9 Tryd.func55 AGo AHD rfl
def ACe:Atc := .seq (.ops [po_ 4 (.mov (.c .nilFunc))] [0,1])
 (.seq (.ops [mv_ 5 0,mv_ 6 1,so_ 7 (.call 54 [.t 5,.t 6,.c (.int .i64 ((0:Nat):Int))]),mv_ 4 7] [4])
 (.ret))
def ABV:List VR:=[.tmp 4]
theorem AKx:Tryd.f41.body.bind (trC Tryd.prog Tryd.f41.ntmps)=some (er ACe):=by kernel_rfl
theorem AKH:trR Tryd.prog Tryd.f41.results.toList=some ABV:=by kernel_rfl
def AIq:=As8 ACe.eq_1
theorem AIg {K:TV→Prop} {e:Env} {H:List Ob}:res ABV e H K=res [.tmp 4] e H K:=As9 rfl
def AB2:=(aI_ @AIq @AIg)
def AJv:=Awn 8 Tryd.func41 AKx AKH rfl
def ACc:Atc := .seq (.ops [so_ 3 (.box (.t 0)),so_ 4 (.box (.t 1)),so_ 5 (.box (.t 2)),po_ 6 (.mov (.c .nilFunc))] [3,4,5])
 (.seq (.ops [po_ 7 (.mkf (.func 62) [] [.t 4,.t 3,.t 5]),mv_ 6 7] [6])
 (.ret))
def ACa:List VR:=[.tmp 6]
theorem AKy:Tryd.f54.body.bind (trC Tryd.prog Tryd.f54.ntmps)=some (er ACc):=by kernel_rfl
theorem ALg:trR Tryd.prog Tryd.f54.results.toList=some ACa:=by kernel_rfl
def AIc:=As8 ACc.eq_1
theorem AIl {K:TV→Prop} {e:Env} {H:List Ob}:res ACa e H K=res [.tmp 6] e H K:=As9 rfl
def ALy:=(aI_ @AIc @AIl)
def AJt:=Awn 8 Tryd.func54 AKy ALg rfl
def Aza:Atc := .block 1 (.seq (.ops [po_ 16 (.load false 1 (.t 2)),so_ 17 (.call 63 [.t 16]),mv_ 15 17,po_ 18 (.ext 0 (.t 15)),po_ 19 (.ext 1 (.t 15)),mv_ 5 18,mv_ 6 19] [0,2,6])
 (.seq (.seq (.ops [mv_ 20 0,po_ 21 (.load false 1 (.t 2)),mv_ 22 6,po_ 23 (.slS (.t 21) none (some (.t 22))),so_ 24 (.callv (.t 20) [.t 23]),po_ 25 (.un .not (.t 24))] [0,2,6,25])
 (.cond (.t 25)
 (.ret)
 (.skip)))
 (.ops [po_ 26 (.load false 1 (.t 2)),mv_ 27 6,po_ 28 (.slS (.t 26) (some (.t 27)) none),⟨none,.s (.store 1 (.t 2) (.t 28)),none⟩] [0,2])))
def AyK:Atc := .seq (.seq (.ops [po_ 12 (.load false 1 (.t 2)),po_ 13 (.lenS (.t 12)),po_ 14 (.bin 3 .gtr (.t 13) (ci_ 0))] [0,2,14])
 (.cond (.t 14)
 (.skip)
 (.exit 0)))
 Aza
def Azw:Atc := .ret
def Ay9:Atc := .seq (.block 0 (.loop [0,2] AyK))
 Azw
def Azq:Atc := .cond (.t 11)
 Ay9
 (.skip)
def AzD:Atc := .seq (.ops [po_ 34 (.load false 1 (.t 2)),mv_ 35 7,po_ 36 (.load false 1 (.t 3)),po_ 37 (.bin 3 .add (.t 35) (.t 36)),po_ 38 (.slS (.t 34) none (some (.t 37))),mv_ 8 38] [0,1,2,3,7,8])
 (.seq (.seq (.ops [mv_ 39 0,mv_ 40 8,so_ 41 (.callv (.t 39) [.t 40]),po_ 42 (.un .not (.t 41))] [0,1,2,3,7,42])
 (.cond (.t 42)
 (.ret)
 (.skip)))
 (.ops [po_ 43 (.load false 1 (.t 2)),mv_ 44 7,po_ 45 (.load false 1 (.t 1)),po_ 46 (.lenS (.t 45)),po_ 47 (.bin 3 .add (.t 44) (.t 46)),po_ 48 (.slS (.t 43) (some (.t 47)) none),⟨none,.s (.store 1 (.t 2) (.t 48)),none⟩] [0,1,2,3]))
def AyY:Atc := .seq (.seq (.ops [mv_ 32 7,po_ 33 (.bin 3 .lss (.t 32) (ci_ 0))] [0,1,2,3,7,33])
 (.cond (.t 33)
 (.exit 2)
 (.skip)))
 AzD
def AyN:Atc := .block 3 (.seq (.ops [po_ 29 (.load false 1 (.t 2)),po_ 30 (.load false 1 (.t 1)),so_ 31 (.call 64 [.t 29,.t 30]),mv_ 7 31] [0,1,2,3,7])
 AyY)
def AyZ:Atc := .ops [mv_ 49 0,po_ 50 (.load false 1 (.t 2)),so_ 51 (.callv (.t 49) [.t 50])] []
def Ayu:Atc := .seq (.block 2 (.loop [0,1,2,3] AyN))
 AyZ
def AA7:Atc := .seq (.seq (.ops [po_ 9 (.load false 1 (.t 1)),po_ 10 (.lenS (.t 9)),po_ 11 (.bin 3 .eql (.t 10) (ci_ 0))] [0,1,2,3,11])
 Azq)
 Ayu
def ABb:List VR:=[]
theorem AIf:Tryd.f62.body.bind (trC Tryd.prog Tryd.f62.ntmps)=some (er AA7):=by kernel_rfl
theorem AH8:trR Tryd.prog Tryd.f62.results.toList=some ABb:=by kernel_rfl
def AC4:=As8 Aza.eq_1
def ACv:=As8 AyK.eq_1
def ACY:=As8 Azw.eq_1
def ACs:=As8 Ay9.eq_1
def ACu:=As8 Azq.eq_1
def ACm:=As8 AzD.eq_1
def ACR:=As8 AyY.eq_1
def ACo:=As8 AyN.eq_1
def ACy:=As8 AyZ.eq_1
def ABM:=As8 Ayu.eq_1
def AGa:=As8 AA7.eq_1
theorem AGg {K:TV→Prop} {e:Env} {H:List Ob}:res ABb e H K=res [] e H K:=As9 rfl
def AuC:=(aI_ (aI_ (aI_ (aI_ @AC4 @ACv) (aI_ @ACY @ACs)) (aI_ (aI_ @ACu @ACm) (aI_ @ACR @ACo))) (aI_ (aI_ @ACy @ABM) (aI_ @AGa @AGg)))
def AGO:=Awn 52 Tryd.func62 AIf AH8 rfl
def AAJ:Atc := .seq (.ops [mv_ 16 1,po_ 17 (.idxS (.t 16) (ci_ 0)),po_ 18 (.conv .i32 (.t 17)),mv_ 5 18] [0,5])
 (.seq (.seq (.ops [mv_ 19 5,po_ 20 (.bin 21 .geq (.t 19) (.c (.int .i32 ((128:Nat):Int))))] [0,5,20])
 (.cond (.t 20)
 (.ops [po_ 5 (.mov (.c (.int .i32 ((65533:Nat):Int))))] [0,5])
 (.skip)))
 (.seq (.ops [mv_ 21 0,mv_ 22 5,so_ 23 (.call 73 [.t 21,.t 22]),mv_ 4 23] [4])
 (.ret)))
def AAF:Atc := .seq (.seq (.ops [mv_ 33 8,mv_ 34 0,po_ 35 (.lenS (.t 34)),po_ 36 (.bin 3 .lss (.t 33) (.t 35))] [0,6,8,36])
 (.cond (.t 36)
 (.skip)
 (.exit 0)))
 (.seq (.block 1 (.seq (.ops [mv_ 39 0,mv_ 40 8,po_ 41 (.idxS (.t 39) (.t 40)),so_ 42 (.call 76 [.t 6,.t 41])] [0,6,8,42])
 (.cond (.t 42)
 (.seq (.ops [mv_ 43 8,mv_ 4 43] [4])
  (.ret))
 (.skip))))
 (.ops [mv_ 37 8,po_ 38 (.bin 3 .add (.t 37) (ci_ 1)),mv_ 8 38] [0,6,8]))
def AAV:Atc := .block 0 (.loop [0,6,8] AAF)
def AAK:Atc := .seq (.ops [po_ 4 (.mov (.c (.int .i64 (-1))))] [4])
 (.ret)
def AAQ:Atc := .seq (.seq (.ops [po_ 8 (.mov (ci_ 0))] [0,6,8])
 AAV)
 AAK
def AAP:Atc := .cond (.t 32)
 AAQ
 (.skip)
def AAI:Atc := .seq (.ops [mv_ 32 7] [0,1,6,32])
 AAP
def AAT:Atc := .seq (.ops [mv_ 28 1,so_ 29 (.call 75 [.t 28]),mv_ 27 29,po_ 30 (.ext 0 (.t 27)),po_ 31 (.ext 1 (.t 27)),so_ 6 (.alloc (.arr 256 1 [.val (.bool false),.val (.bool false),.val (.bool false),.val (.bool false),.val (.bool false),.val (.bool false),.val (.bool false),.val (.bool false),.val (.bool false),.val (.bool false),.val (.bool false),.val (.bool false),.val (.bool false),.val (.bool false),.val (.bool false),.val (.bool false),.val (.bool false),.val (.bool false),.val (.bool false),.val (.bool false),.val (.bool false),.val (.bool false),.val (.bool false),.val (.bool false),.val (.bool false),.val (.bool false),.val (.bool false),.val (.bool false),.val (.bool false),.val (.bool false),.val (.bool false),.val (.bool false),.val (.bool false),.val (.bool false),.val (.bool false),.val (.bool false),.val (.bool false),.val (.bool false),.val (.bool false),.val (.bool false),.val (.bool false),.val (.bool false),.val (.bool false),.val (.bool false),.val (.bool false),.val (.bool false),.val (.bool false),.val (.bool false),.val (.bool false),.val (.bool false),.val (.bool false),.val (.bool false),.val (.bool false),.val (.bool false),.val (.bool false),.val (.bool false),.val (.bool false),.val (.bool false),.val (.bool false),.val (.bool false),.val (.bool false),.val (.bool false),.val (.bool false),.val (.bool false),.val (.bool false),.val (.bool false),.val (.bool false),.val (.bool false),.val (.bool false),.val (.bool false),.val (.bool false),.val (.bool false),.val (.bool false),.val (.bool false),.val (.bool false),.val (.bool false),.val (.bool false),.val (.bool false),.val (.bool false),.val (.bool false),.val (.bool false),.val (.bool false),.val (.bool false),.val (.bool false),.val (.bool false),.val (.bool false),.val (.bool false),.val (.bool false),.val (.bool false),.val (.bool false),.val (.bool false),.val (.bool false),.val (.bool false),.val (.bool false),.val (.bool false),.val (.bool false),.val (.bool false),.val (.bool false),.val (.bool false),.val (.bool false),.val (.bool false),.val (.bool false),.val (.bool false),.val (.bool false),.val (.bool false),.val (.bool false),.val (.bool false),.val (.bool false),.val (.bool false),.val (.bool false),.val (.bool false),.val (.bool false),.val (.bool false),.val (.bool false),.val (.bool false),.val (.bool false),.val (.bool false),.val (.bool false),.val (.bool false),.val (.bool false),.val (.bool false),.val (.bool false),.val (.bool false),.val (.bool false),.val (.bool false),.val (.bool false),.val (.bool false),.val (.bool false),.val (.bool false),.val (.bool false),.val (.bool false),.val (.bool false),.val (.bool false),.val (.bool false),.val (.bool false),.val (.bool false),.val (.bool false),.val (.bool false),.val (.bool false),.val (.bool false),.val (.bool false),.val (.bool false),.val (.bool false),.val (.bool false),.val (.bool false),.val (.bool false),.val (.bool false),.val (.bool false),.val (.bool false),.val (.bool false),.val (.bool false),.val (.bool false),.val (.bool false),.val (.bool false),.val (.bool false),.val (.bool false),.val (.bool false),.val (.bool false),.val (.bool false),.val (.bool false),.val (.bool false),.val (.bool false),.val (.bool false),.val (.bool false),.val (.bool false),.val (.bool false),.val (.bool false),.val (.bool false),.val (.bool false),.val (.bool false),.val (.bool false),.val (.bool false),.val (.bool false),.val (.bool false),.val (.bool false),.val (.bool false),.val (.bool false),.val (.bool false),.val (.bool false),.val (.bool false),.val (.bool false),.val (.bool false),.val (.bool false),.val (.bool false),.val (.bool false),.val (.bool false),.val (.bool false),.val (.bool false),.val (.bool false),.val (.bool false),.val (.bool false),.val (.bool false),.val (.bool false),.val (.bool false),.val (.bool false),.val (.bool false),.val (.bool false),.val (.bool false),.val (.bool false),.val (.bool false),.val (.bool false),.val (.bool false),.val (.bool false),.val (.bool false),.val (.bool false),.val (.bool false),.val (.bool false),.val (.bool false),.val (.bool false),.val (.bool false),.val (.bool false),.val (.bool false),.val (.bool false),.val (.bool false),.val (.bool false),.val (.bool false),.val (.bool false),.val (.bool false),.val (.bool false),.val (.bool false),.val (.bool false),.val (.bool false),.val (.bool false),.val (.bool false),.val (.bool false),.val (.bool false),.val (.bool false),.val (.bool false),.val (.bool false),.val (.bool false),.val (.bool false),.val (.bool false),.val (.bool false),.val (.bool false),.val (.bool false),.val (.bool false),.val (.bool false),.val (.bool false),.val (.bool false),.val (.bool false),.val (.bool false),.val (.bool false),.val (.bool false),.val (.bool false),.val (.bool false),.val (.bool false),.val (.bool false),.val (.bool false),.val (.bool false),.val (.bool false),.val (.bool false),.val (.bool false),.val (.bool false),.val (.bool false),.val (.bool false),.val (.bool false)])),⟨none,.s (.store 256 (.t 6) (.t 30)),none⟩,mv_ 7 31] [0,1,6,7])
 AAI
def AAO:Atc := .cond (.t 26)
 AAT
 (.skip)
def AzW:Atc := .seq (.ops [so_ 46 (.nxtS (.t 45)),po_ 47 (.ext 0 (.t 46))] [1,45,46,47])
 (.seq (.cond (.t 47)
 (.skip)
 (.exit 2))
 (.block 3 (.seq (.ops [po_ 48 (.ext 1 (.t 46)),po_ 49 (.ext 2 (.t 46)),mv_ 9 48,mv_ 10 49] [1,9,10,45])
 (.seq (.ops [mv_ 50 1,mv_ 51 10,so_ 52 (.call 73 [.t 50,.t 51]),po_ 53 (.bin 3 .geq (.t 52) (ci_ 0))] [1,9,45,53])
 (.cond (.t 53)
 (.seq (.ops [mv_ 54 9,mv_ 4 54] [4])
  (.ret))
 (.skip))))))
def Az1:Atc := .seq (.ops [po_ 4 (.mov (.c (.int .i64 (-1))))] [4])
 (.ret)
def Az9:Atc := .seq (.seq (.ops [mv_ 44 0,so_ 45 (.rngS (.t 44))] [1,45])
 (.block 2 (.loop [1,45] AzW)))
 Az1
def AAa:Atc := .seq (.seq (.ops [mv_ 24 0,po_ 25 (.lenS (.t 24)),so_ 26 (.call 74 [.t 25])] [0,1,26])
 AAO)
 Az9
def AzZ:Atc := .seq (.seq (.ops [mv_ 13 1,po_ 14 (.lenS (.t 13)),po_ 15 (.bin 3 .eql (.t 14) (ci_ 1))] [0,1,15])
 (.cond (.t 15)
 AAJ
 (.skip)))
 AAa
def Az6:Atc := .seq (.seq (.ops [mv_ 11 1,po_ 12 (.bin 9 .eql (.t 11) (.c (.string (str []))))] [0,1,12])
 (.cond (.t 12)
 (.seq (.ops [po_ 4 (.mov (.c (.int .i64 (-1))))] [4])
  (.ret))
 (.skip)))
 AzZ
def ABW:Atc := .seq (.ops [po_ 4 (.mov (ci_ 0))] [0,1])
 Az6
def ABZ:List VR:=[.tmp 4]
theorem AKT:Tryd.f65.body.bind (trC Tryd.prog Tryd.f65.ntmps)=some (er ABW):=by kernel_rfl
theorem AKz:trR Tryd.prog Tryd.f65.results.toList=some ABZ:=by kernel_rfl
def AEl:=As8 AAJ.eq_1
def AEL:=As8 AAF.eq_1
def AEI:=As8 AAV.eq_1
def AEv:=As8 AAK.eq_1
def AEG:=As8 AAQ.eq_1
def AEp:=As8 AAP.eq_1
def AEz:=As8 AAI.eq_1
def AEF:=As8 AAT.eq_1
def AEm:=As8 AAO.eq_1
def AEb:=As8 AzW.eq_1
def ADB:=As8 Az1.eq_1
def ADj:=As8 Az9.eq_1
def AEd:=As8 AAa.eq_1
def ADi:=As8 AzZ.eq_1
def ADp:=As8 Az6.eq_1
def AIj:=As8 ABW.eq_1
theorem AIh {K:TV→Prop} {e:Env} {H:List Ob}:res ABZ e H K=res [.tmp 4] e H K:=As9 rfl
def Au8:=(aI_ (aI_ (aI_ (aI_ (aI_ @AEl @AEL) (aI_ @AEI @AEv)) (aI_ (aI_ @AEG @AEp) (aI_ @AEz @AEF))) (aI_ (aI_ (aI_ @AEm @AEb) (aI_ @ADB @ADj)) (aI_ (aI_ @AEd @ADi) (aI_ @ADp @AIj)))) @AIh)
def AJw:=Awn 55 Tryd.func65 AKT AKz rfl
def AzO:Atc := .seq (.ops [so_ 176 (.nxtS (.t 175)),po_ 177 (.ext 0 (.t 176))] [175,176,177])
 (.seq (.cond (.t 177)
 (.skip)
 (.exit 9))
 (.block 10 (.seq (.ops [po_ 178 (.ext 1 (.t 176)),po_ 179 (.ext 2 (.t 176)),mv_ 5 178,mv_ 6 179] [5,6,175])
 (.seq (.ops [mv_ 180 6,po_ 181 (.bin 21 .eql (.t 180) (.c (.int .i32 ((65533:Nat):Int))))] [5,175,181])
 (.cond (.t 181)
 (.seq (.ops [mv_ 182 5,mv_ 4 182] [4])
  (.ret))
 (.skip))))))
def Az3:Atc := .seq (.ops [po_ 4 (.mov (.c (.int .i64 (-1))))] [4])
 (.ret)
def Az7:Atc := .seq (.seq (.ops [mv_ 174 0,so_ 175 (.rngS (.t 174))] [175])
 (.block 9 (.loop [175] AzO)))
 Az3
def AzX:Atc := .seq (.draw 4 [mv_ 34 0,mv_ 35 9,po_ 36 (.bin 3 .add (.t 35) (ci_ 1)),po_ 37 (.slS (.t 34) (some (.t 36)) none),mv_ 38 7,mv_ 39 8,po_ 40 (.idxS (.t 38) (.t 39)),so_ 41 (.call 82 [.t 37,.t 40]),mv_ 11 41] [0,7,8,9,11])
 (.seq (.seq (.ops [mv_ 42 11,po_ 43 (.bin 3 .lss (.t 42) (ci_ 0))] [0,7,8,9,11,43])
 (.cond (.t 43)
 (.seq (.ops [po_ 4 (.mov (.c (.int .i64 (-1))))] [4])
  (.ret))
 (.skip)))
 (.ops [mv_ 44 9,mv_ 45 11,po_ 46 (.bin 3 .add (.t 45) (ci_ 1)),po_ 47 (.bin 3 .add (.t 44) (.t 46)),mv_ 9 47] [0,7,8,9]))
def AzY:Atc := .cond (.t 33)
 AzX
 (.skip)
def Az0:Atc := .seq (.block 4 (.seq (.draw 6 [mv_ 54 0,mv_ 55 9,mv_ 56 12,po_ 57 (.bin 3 .sub (.t 55) (.t 56)),po_ 58 (.idxS (.t 54) (.t 57)),mv_ 59 7,mv_ 60 8,mv_ 61 12,po_ 62 (.bin 3 .sub (.t 60) (.t 61)),po_ 63 (.idxS (.t 59) (.t 62)),po_ 64 (.bin 5 .neq (.t 58) (.t 63))] [0,7,8,9,12,64])
 (.cond (.t 64)
 (.dead)
 (.skip))))
 (.ops [mv_ 52 12,po_ 53 (.bin 3 .add (.t 52) (ci_ 1)),mv_ 12 53] [0,7,8,9,12])
def AzT:Atc := .seq (.seq (.ops [mv_ 48 12,mv_ 49 7,po_ 50 (.lenS (.t 49)),po_ 51 (.bin 3 .lss (.t 48) (.t 50))] [0,7,8,9,12,51])
 (.cond (.t 51)
 (.skip)
 (.exit 3)))
 Az0
def AzR:Atc := .block 3 (.loop [0,7,8,9,12] AzT)
def AzP:Atc := .seq (.ops [po_ 72 (.mov (.c (.bool true))),⟨some 73,.p (.mov (.t 10)),some ⟨72,true⟩⟩,⟨some 74,.p (.mov (.t 9)),some ⟨72,true⟩⟩,⟨some 75,.s (.call 80 [.t 74]),some ⟨72,true⟩⟩,⟨some 76,.p (.bin 3 .gtr (.t 73) (.t 75)),some ⟨72,true⟩⟩,po_ 77 (.pick (.t 72) (.t 76) (.c (.bool false))),mv_ 78 77,⟨some 79,.p (.mov (.t 9)),some ⟨78,true⟩⟩,⟨some 80,.p (.mov (.t 0)),some ⟨78,true⟩⟩,⟨some 81,.p (.lenS (.t 80)),some ⟨78,true⟩⟩,⟨some 82,.p (.bin 3 .lss (.t 79) (.t 81)),some ⟨78,true⟩⟩,po_ 83 (.pick (.t 78) (.t 82) (.c (.bool false))),mv_ 84 83,⟨some 85,.p (.mov (.c (.bool false))),some ⟨84,false⟩⟩,⟨some 86,.p (.mov (.t 10)),some ⟨85,true⟩⟩,⟨some 87,.p (.mov (.t 9)),some ⟨85,true⟩⟩,⟨some 88,.p (.bin 3 .shr (.t 87) (.c (.int .u64 ((4:Nat):Int)))),some ⟨85,true⟩⟩,⟨some 89,.p (.bin 3 .add (ci_ 4) (.t 88)),some ⟨85,true⟩⟩,⟨some 90,.p (.bin 3 .geq (.t 86) (.t 89)),some ⟨85,true⟩⟩,⟨some 91,.p (.pick (.t 85) (.t 90) (.c (.bool false))),some ⟨84,false⟩⟩,⟨some 92,.p (.mov (.t 91)),some ⟨84,false⟩⟩,⟨some 93,.p (.mov (.t 9)),some ⟨92,true⟩⟩,⟨some 94,.p (.mov (.t 0)),some ⟨92,true⟩⟩,⟨some 95,.p (.lenS (.t 94)),some ⟨92,true⟩⟩,⟨some 96,.p (.bin 3 .lss (.t 93) (.t 95)),some ⟨92,true⟩⟩,⟨some 97,.p (.pick (.t 92) (.t 96) (.c (.bool false))),some ⟨84,false⟩⟩,po_ 98 (.pick (.t 84) (.c (.bool true)) (.t 97))] [0,7,8,9,98])
 (.cond (.t 98)
 (.dead)
 (.skip))
def AzH:Atc := .seq (.ops [mv_ 70 9,po_ 71 (.bin 3 .add (.t 70) (ci_ 1)),mv_ 9 71] [0,7,8,9,10])
 AzP
def Ay4:Atc := .seq (.ops [mv_ 68 10,po_ 69 (.bin 3 .add (.t 68) (ci_ 1)),mv_ 10 69] [0,7,8,9,10])
 AzH
def AyO:Atc := .seq (.skip)
 Ay4
def Ay2:Atc := .seq (.seq (.ops [mv_ 65 9,mv_ 66 8,po_ 67 (.bin 3 .sub (.t 65) (.t 66)),mv_ 4 67] [4])
 (.ret))
 AyO
def Azo:Atc := .seq (.seq (.ops [po_ 12 (.mov (ci_ 1))] [0,7,8,9,12])
 AzR)
 Ay2
def Azr:Atc := .block 2 (.scope (.seq (.seq (.draw 3 [mv_ 27 0,mv_ 28 9,po_ 29 (.idxS (.t 27) (.t 28)),mv_ 30 7,mv_ 31 8,po_ 32 (.idxS (.t 30) (.t 31)),po_ 33 (.bin 5 .neq (.t 29) (.t 32))] [0,7,8,9,33])
 AzY)
 Azo))
def AyT:Atc := .seq (.seq (.ops [mv_ 23 9,mv_ 24 0,po_ 25 (.lenS (.t 24)),po_ 26 (.bin 3 .lss (.t 23) (.t 25))] [0,7,8,9,26])
 (.cond (.t 26)
 (.skip)
 (.exit 1)))
 Azr
def Azh:Atc := .seq (.dead)
 (.seq (.ops [mv_ 107 13,po_ 108 (.bin 3 .geq (.t 107) (ci_ 0))] [8,9,13,108])
 (.cond (.t 108)
 (.seq (.ops [mv_ 109 9,mv_ 110 13,po_ 111 (.bin 3 .add (.t 109) (.t 110)),mv_ 112 8,po_ 113 (.bin 3 .sub (.t 111) (.t 112)),mv_ 4 113] [4])
  (.ret))
 (.skip)))
def AzE:Atc := .seq (.block 8 (.seq (.draw 6 [mv_ 146 0,mv_ 147 9,mv_ 148 16,po_ 149 (.bin 3 .sub (.t 147) (.t 148)),po_ 150 (.idxS (.t 146) (.t 149)),mv_ 151 7,mv_ 152 8,mv_ 153 16,po_ 154 (.bin 3 .sub (.t 152) (.t 153)),po_ 155 (.idxS (.t 151) (.t 154)),po_ 156 (.bin 5 .neq (.t 150) (.t 155))] [0,7,8,9,14,15,16,156])
 (.cond (.t 156)
 (.exit 6)
 (.skip))))
 (.ops [mv_ 144 16,po_ 145 (.bin 3 .add (.t 144) (ci_ 1)),mv_ 16 145] [0,7,8,9,14,15,16])
def AzI:Atc := .seq (.seq (.ops [mv_ 140 16,mv_ 141 7,po_ 142 (.lenS (.t 141)),po_ 143 (.bin 3 .lss (.t 140) (.t 142))] [0,7,8,9,14,15,16,143])
 (.cond (.t 143)
 (.skip)
 (.exit 7)))
 AzE
def AyU:Atc := .block 7 (.loop [0,7,8,9,14,15,16] AzI)
def Azg:Atc := .seq (.ops [mv_ 157 9,mv_ 158 8,po_ 159 (.bin 3 .sub (.t 157) (.t 158)),mv_ 4 159] [4])
 (.ret)
def Azb:Atc := .seq (.seq (.ops [po_ 16 (.mov (ci_ 2))] [0,7,8,9,14,15,16])
 AyU)
 Azg
def AyQ:Atc := .cond (.t 139)
 Azb
 (.skip)
def Azl:Atc := .ops [mv_ 125 9,po_ 126 (.bin 3 .add (.t 125) (ci_ 1)),mv_ 9 126] [0,7,8,9,14,15]
def Azi:Atc := .seq (.block 6 (.seq (.ops [mv_ 127 0,mv_ 128 9,po_ 129 (.idxS (.t 127) (.t 128)),mv_ 130 14,po_ 131 (.bin 5 .eql (.t 129) (.t 130)),mv_ 132 131,⟨some 133,.p (.mov (.t 0)),some ⟨132,true⟩⟩,⟨some 134,.p (.mov (.t 9)),some ⟨132,true⟩⟩,⟨some 135,.p (.bin 3 .sub (.t 134) (ci_ 1)),some ⟨132,true⟩⟩,⟨some 136,.p (.idxS (.t 133) (.t 135)),some ⟨132,true⟩⟩,⟨some 137,.p (.mov (.t 15)),some ⟨132,true⟩⟩,⟨some 138,.p (.bin 5 .eql (.t 136) (.t 137)),some ⟨132,true⟩⟩,po_ 139 (.pick (.t 132) (.t 138) (.c (.bool false)))] [0,7,8,9,14,15,139])
 AyQ))
 Azl
def Azf:Atc := .seq (.seq (.ops [mv_ 121 9,mv_ 122 0,po_ 123 (.lenS (.t 122)),po_ 124 (.bin 3 .lss (.t 121) (.t 123))] [0,7,8,9,14,15,124])
 (.cond (.t 124)
 (.skip)
 (.exit 5)))
 Azi
def AyS:Atc := .block 5 (.loop [0,7,8,9,14,15] Azf)
def Azy:Atc := .seq (.skip)
 AyS
def AyL:Atc := .seq (.ops [mv_ 117 7,mv_ 118 8,po_ 119 (.bin 3 .sub (.t 118) (ci_ 1)),po_ 120 (.idxS (.t 117) (.t 119)),mv_ 15 120] [0,7,8,9,14,15])
 Azy
def Azt:Atc := .scope (.seq (.ops [mv_ 114 7,mv_ 115 8,po_ 116 (.idxS (.t 114) (.t 115)),mv_ 14 116] [0,7,8,9,14])
 AyL)
def Ay8:Atc := .seq (.ops [po_ 4 (.mov (.c (.int .i64 (-1))))] [4])
 (.ret)
def Azj:Atc := .seq (.cond (.c (.bool true))
 Azh
 Azt)
 Ay8
def AyV:Atc := .seq (.skip)
 Azj
def Azk:Atc := .seq (.seq (.ops [po_ 4 (.mov (.c (.int .i64 (-1))))] [4])
 (.ret))
 AyV
def Azz:Atc := .seq (.block 1 (.loop [0,7,8,9] AyT))
 Azk
def AyI:Atc := .seq (.ops [po_ 10 (.mov (ci_ 0))] [0,7,8,9])
 Azz
def Aze:Atc := .seq (.ops [mv_ 22 8,mv_ 9 22] [0,7,8,9])
 AyI
def AzA:Atc := .seq (.ops [mv_ 19 7,po_ 20 (.lenS (.t 19)),po_ 21 (.bin 3 .sub (.t 20) (ci_ 1)),mv_ 8 21] [0,7,8])
 Aze
def Ay3:Atc := .scope (.seq (.ops [mv_ 17 1,po_ 18 (.gen .r2s [.t 17]),mv_ 7 18] [0,7])
 AzA)
def AyM:Atc := .cond (.t 183)
 (.seq (.ops [po_ 4 (.mov (.c (.int .i64 (-1))))] [4])
  (.ret))
 Ay3
def Ay7:Atc := .seq (.ops [mv_ 184 1,so_ 185 (.call 83 [.t 184]),po_ 186 (.un .not (.t 185)),mv_ 183 186] [0,1,183])
 AyM
def Azm:Atc := .cond (.t 171)
 Az7
 Ay7
def AzF:Atc := .seq (.ops [mv_ 172 1,po_ 173 (.bin 21 .eql (.t 172) (.c (.int .i32 ((65533:Nat):Int)))),mv_ 171 173] [0,1,171])
 Azm
def Azd:Atc := .cond (.t 160)
 (.seq (.ops [mv_ 167 0,mv_ 168 1,po_ 169 (.conv .u8 (.t 168)),so_ 170 (.call 82 [.t 167,.t 169]),mv_ 4 170] [4])
  (.ret))
 AzF
def AzC:Atc := .block 0 (.seq (.ops [mv_ 161 1,po_ 162 (.bin 21 .leq (.c (.int .i32 ((0:Nat):Int))) (.t 161)),mv_ 163 162,⟨some 164,.p (.mov (.t 1)),some ⟨163,true⟩⟩,⟨some 165,.p (.bin 21 .lss (.t 164) (.c (.int .i32 ((128:Nat):Int)))),some ⟨163,true⟩⟩,po_ 166 (.pick (.t 163) (.t 165) (.c (.bool false))),mv_ 160 166] [0,1,160])
 Azd)
def ABx:Atc := .seq (.ops [po_ 4 (.mov (ci_ 0))] [0,1])
 AzC
def ABB:List VR:=[.tmp 4]
theorem AJC:Tryd.f73.body.bind (trC Tryd.prog Tryd.f73.ntmps)=some (er ABx):=by kernel_rfl
theorem AJy:trR Tryd.prog Tryd.f73.results.toList=some ABB:=by kernel_rfl
def ADA:=As8 AzO.eq_1
def ADK:=As8 Az3.eq_1
def ADQ:=As8 Az7.eq_1
def ADJ:=As8 AzX.eq_1
def AEf:=As8 AzY.eq_1
def ADI:=As8 Az0.eq_1
def AD6:=As8 AzT.eq_1
def ADG:=As8 AzR.eq_1
def AD8:=As8 AzP.eq_1
def ACn:=As8 AzH.eq_1
def ACX:=As8 Ay4.eq_1
def ACH:=As8 AyO.eq_1
def AC2:=As8 Ay2.eq_1
def ACF:=As8 Azo.eq_1
def ACU:=As8 Azr.eq_1
def ADa:=As8 AyT.eq_1
def AC8:=As8 Azh.eq_1
def ACM:=As8 AzE.eq_1
def ACT:=As8 AzI.eq_1
def ACr:=As8 AyU.eq_1
def AC6:=As8 Azg.eq_1
def ADd:=As8 Azb.eq_1
def AC0:=As8 AyQ.eq_1
def ACj:=As8 Azl.eq_1
def ACC:=As8 Azi.eq_1
def ACN:=As8 Azf.eq_1
def AC5:=As8 AyS.eq_1
def ACV:=As8 Azy.eq_1
def ACA:=As8 AyL.eq_1
def AC1:=As8 Azt.eq_1
def ACQ:=As8 Ay8.eq_1
def ACW:=As8 Azj.eq_1
def ACO:=As8 AyV.eq_1
def AC9:=As8 Azk.eq_1
def AC3:=As8 Azz.eq_1
def ACG:=As8 AyI.eq_1
def ACD:=As8 Aze.eq_1
def ACZ:=As8 AzA.eq_1
def ACz:=As8 Ay3.eq_1
def ACk:=As8 AyM.eq_1
def ACJ:=As8 Ay7.eq_1
def ACB:=As8 Azm.eq_1
def ACE:=As8 AzF.eq_1
def ACI:=As8 Azd.eq_1
def ACq:=As8 AzC.eq_1
def AHt:=As8 ABx.eq_1
theorem AHb {K:TV→Prop} {e:Env} {H:List Ob}:res ABB e H K=res [.tmp 4] e H K:=As9 rfl
def AtA:=(aI_ (aI_ (aI_ (aI_ (aI_ (aI_ @ADA @ADK) (aI_ @ADQ @ADJ)) (aI_ (aI_ @AEf @ADI) (aI_ @AD6 @ADG))) (aI_ (aI_ (aI_ @AD8 @ACn) (aI_ @ACX @ACH)) (aI_ (aI_ @AC2 @ACF) (aI_ @ACU @ADa)))) (aI_ (aI_ (aI_ (aI_ @AC8 @ACM) (aI_ @ACT @ACr)) (aI_ (aI_ @AC6 @ADd) (aI_ @AC0 @ACj))) (aI_ (aI_ (aI_ @ACC @ACN) (aI_ @AC5 @ACV)) (aI_ (aI_ @ACA @AC1) (aI_ @ACQ @ACW))))) (aI_ (aI_ (aI_ (aI_ @ACO @AC9) (aI_ @AC3 @ACG)) (aI_ (aI_ @ACD @ACZ) (aI_ @ACz @ACk))) (aI_ (aI_ (aI_ @ACJ @ACB) (aI_ @ACE @ACI)) (aI_ (aI_ @ACq @AHt) @AHb))))
def AIe:=Awn 187 Tryd.func73 AJC AJy rfl
def AxH:Atc := .seq (.ops [po_ 2 (.mov (.c (.bool false)))] [0])
 (.seq (.ops [mv_ 3 0,po_ 4 (.bin 3 .gtr (.t 3) (ci_ 8)),mv_ 2 4] [2])
 (.ret))
def AxS:List VR:=[.tmp 2]
theorem ABC:Tryd.f74.body.bind (trC Tryd.prog Tryd.f74.ntmps)=some (er AxH):=by kernel_rfl
theorem ABH:trR Tryd.prog Tryd.f74.results.toList=some AxS:=by kernel_rfl
def AA2:=As8 AxH.eq_1
theorem AAZ {K:TV→Prop} {e:Env} {H:List Ob}:res AxS e H K=res [.tmp 2] e H K:=As9 rfl
def ABo:=(aI_ @AA2 @AAZ)
def ABi:=Awn 5 Tryd.func74 ABC ABH rfl
end
end Go.Proofs.YtnkpoloeifhflaaDoor
namespace Go.Proofs
open Go.Shelf
def Tryd.lays119_ren:Go.Shelf.Ren:=⟨fun | 119=>83 | n=>n,fun | 21=>21 | 4=>4 | n=>n,fun | n=>n⟩
theorem Tryd.lays119:Go.Proofs.Lays.n119 Tryd.prog Tryd.lays119_ren:={
 mixed:=by kernel_rfl
 f119:=Tryd.func83.trans (congrArg some (by kernel_rfl))
 t4:=Tryd.underlying4
 a4:=Tryd.isAgg4
 z4:=Tryd.sizeOf4
 v4:=Tryd.zeroValue4
 t21:=Tryd.underlying21
 a21:=Tryd.isAgg21
 z21:=Tryd.sizeOf21
 v21:=Tryd.zeroValue21 }
theorem Tryd.utf8_ValidRune (r:Int) (w:World) :
  Calls Tryd.prog 83 #[.int .i32 r] w fun e w'=>e = .returned (.bool (Lib.validRune r))∧w'=w:=Any.utf8_ValidRune Tryd.lays119 r w
def Tryd.lays137_ren:Go.Shelf.Ren:=⟨fun | 137=>82 | 217=>78 | 266=>84 | n=>n,fun | 9=>9 | 5=>5 | 3=>3 | n=>n,fun | n=>n⟩
theorem Tryd.lays137:Go.Proofs.Lays.n137 Tryd.prog Tryd.lays137_ren:={
 mixed:=by kernel_rfl
 f137:=Tryd.func82.trans (congrArg some (by kernel_rfl))
 f217:=Tryd.func78.trans (congrArg some (by kernel_rfl))
 f266:=Tryd.func84.trans (congrArg some (by kernel_rfl))
 t3:=Tryd.underlying3
 a3:=Tryd.isAgg3
 z3:=Tryd.sizeOf3
 v3:=Tryd.zeroValue3
 t5:=Tryd.underlying5
 a5:=Tryd.isAgg5
 z5:=Tryd.sizeOf5
 v5:=Tryd.zeroValue5
 t9:=Tryd.underlying9
 a9:=Tryd.isAgg9
 z9:=Tryd.sizeOf9
 v9:=Tryd.zeroValue9 }
open Go.RowKit in
theorem Tryd.strings_IndexByte (s:ByteArray) (c:Int) (w:World) :
  Calls Tryd.prog 82 #[.string s,.int .u8 c] w fun e w'=>e = .returned (.int .i64 (Lib.indexByte s.data.toList c.toNat.toUInt8))∧w'=w:=Any.strings_IndexByte Tryd.lays137 s c w
def Tryd.lays143_ren:Go.Shelf.Ren:=⟨fun | 143=>64 | 219=>72 | 217=>78 | 225=>79 | 224=>80 | 267=>81 | 266=>84 | 314=>85 | n=>n,fun | 9=>9 | 3=>3 | 4=>4 | 5=>5 | 46=>45 | 146=>140 | 51=>70 | n=>n,fun | 1=>3 | n=>n⟩
theorem Tryd.lays143:Go.Proofs.Lays.n143 Tryd.prog Tryd.lays143_ren:={
 mixed:=by kernel_rfl
 f143:=Tryd.func64.trans (congrArg some (by kernel_rfl))
 f217:=Tryd.func78.trans (congrArg some (by kernel_rfl))
 f219:=Tryd.func72.trans (congrArg some (by kernel_rfl))
 f224:=Tryd.func80.trans (congrArg some (by kernel_rfl))
 f225:=Tryd.func79.trans (congrArg some (by kernel_rfl))
 f266:=Tryd.func84.trans (congrArg some (by kernel_rfl))
 f267:=Tryd.func81.trans (congrArg some (by kernel_rfl))
 f314:=Tryd.func85.trans (congrArg some (by kernel_rfl))
 t3:=Tryd.underlying3
 a3:=Tryd.isAgg3
 z3:=Tryd.sizeOf3
 v3:=Tryd.zeroValue3
 t4:=Tryd.underlying4
 a4:=Tryd.isAgg4
 z4:=Tryd.sizeOf4
 v4:=Tryd.zeroValue4
 t5:=Tryd.underlying5
 a5:=Tryd.isAgg5
 z5:=Tryd.sizeOf5
 v5:=Tryd.zeroValue5
 t9:=Tryd.underlying9
 a9:=Tryd.isAgg9
 z9:=Tryd.sizeOf9
 v9:=Tryd.zeroValue9
 t46:=Tryd.underlying45
 a46:=Tryd.isAgg45
 z46:=Tryd.sizeOf45
 v46:=Tryd.zeroValue45
 t51:=Tryd.underlying70
 a51:=Tryd.isAgg70
 z51:=Tryd.sizeOf70
 v51:=Tryd.zeroValue70
 t146:=Tryd.underlying140
 a146:=Tryd.isAgg140
 z146:=Tryd.sizeOf140
 v146:=Tryd.zeroValue140
 g1:=by kernel_rfl }
open Go.RowKit Go.Lib in
theorem Tryd.strings_Index_one (s:ByteArray) (c:UInt8) (w:World) :
  Calls Tryd.prog 64 #[.string s,.string ⟨#[c]⟩] w fun e w'=>e = .returned (.int .i64 (Lib.indexByte s.data.toList c))∧w'=w:=Any.strings_Index_one Tryd.lays143 s c w
def Tryd.lays152_ren:Go.Shelf.Ren:=⟨fun | 152=>73 | 137=>82 | 119=>83 | 224=>80 | 225=>79 | 217=>78 | 266=>84 | n=>n,fun | 9=>9 | 21=>21 | 3=>3 | 4=>4 | 5=>5 | 0=>0 | 46=>45 | n=>n,fun | n=>n⟩
theorem Tryd.lays152:Go.Proofs.Lays.n152 Tryd.prog Tryd.lays152_ren:={
 mixed:=by kernel_rfl
 f119:=Tryd.func83.trans (congrArg some (by kernel_rfl))
 f137:=Tryd.func82.trans (congrArg some (by kernel_rfl))
 f152:=Tryd.func73.trans (congrArg some (by kernel_rfl))
 f217:=Tryd.func78.trans (congrArg some (by kernel_rfl))
 f224:=Tryd.func80.trans (congrArg some (by kernel_rfl))
 f225:=Tryd.func79.trans (congrArg some (by kernel_rfl))
 f266:=Tryd.func84.trans (congrArg some (by kernel_rfl))
 t0:=Tryd.underlying0
 a0:=Tryd.isAgg0
 z0:=Tryd.sizeOf0
 v0:=Tryd.zeroValue0
 t3:=Tryd.underlying3
 a3:=Tryd.isAgg3
 z3:=Tryd.sizeOf3
 v3:=Tryd.zeroValue3
 t4:=Tryd.underlying4
 a4:=Tryd.isAgg4
 z4:=Tryd.sizeOf4
 v4:=Tryd.zeroValue4
 t5:=Tryd.underlying5
 a5:=Tryd.isAgg5
 z5:=Tryd.sizeOf5
 v5:=Tryd.zeroValue5
 t9:=Tryd.underlying9
 a9:=Tryd.isAgg9
 z9:=Tryd.sizeOf9
 v9:=Tryd.zeroValue9
 t21:=Tryd.underlying21
 a21:=Tryd.isAgg21
 z21:=Tryd.sizeOf21
 v21:=Tryd.zeroValue21
 t46:=Tryd.underlying45
 a46:=Tryd.isAgg45
 z46:=Tryd.sizeOf45
 v46:=Tryd.zeroValue45 }
open Go.RowKit Go.Lib in
theorem Tryd.strings_IndexRune_ascii (s:ByteArray) (r:Int) (w:World) (h0:0≤r) (h1:r<128) :
  Calls Tryd.prog 73 #[.string s,.int .i32 r] w fun e w'=>e = .returned (.int .i64 (Lib.indexByte s.data.toList r.toNat.toUInt8))∧w'=w:=Any.strings_IndexRune_ascii Tryd.lays152 s r w h0 h1
def Tryd.lays153_ren:Go.Shelf.Ren:=⟨fun | 153=>65 | 152=>73 | 226=>74 | 227=>75 | 228=>76 | 137=>82 | 119=>83 | 224=>80 | 225=>79 | 217=>78 | 266=>84 | n=>n,fun | 9=>9 | 3=>3 | 4=>4 | 5=>5 | 21=>21 | 117=>129 | 116=>128 | 0=>0 | 46=>45 | 124=>139 | n=>n,fun | n=>n⟩
theorem Tryd.lays153:Go.Proofs.Lays.n153 Tryd.prog Tryd.lays153_ren:={
 mixed:=by kernel_rfl
 f119:=Tryd.func83.trans (congrArg some (by kernel_rfl))
 f137:=Tryd.func82.trans (congrArg some (by kernel_rfl))
 f152:=Tryd.func73.trans (congrArg some (by kernel_rfl))
 f153:=Tryd.func65.trans (congrArg some (by kernel_rfl))
 f217:=Tryd.func78.trans (congrArg some (by kernel_rfl))
 f224:=Tryd.func80.trans (congrArg some (by kernel_rfl))
 f225:=Tryd.func79.trans (congrArg some (by kernel_rfl))
 f226:=Tryd.func74.trans (congrArg some (by kernel_rfl))
 f227:=Tryd.func75.trans (congrArg some (by kernel_rfl))
 f228:=Tryd.func76.trans (congrArg some (by kernel_rfl))
 f266:=Tryd.func84.trans (congrArg some (by kernel_rfl))
 t0:=Tryd.underlying0
 a0:=Tryd.isAgg0
 z0:=Tryd.sizeOf0
 v0:=Tryd.zeroValue0
 t3:=Tryd.underlying3
 a3:=Tryd.isAgg3
 z3:=Tryd.sizeOf3
 v3:=Tryd.zeroValue3
 t4:=Tryd.underlying4
 a4:=Tryd.isAgg4
 z4:=Tryd.sizeOf4
 v4:=Tryd.zeroValue4
 t5:=Tryd.underlying5
 a5:=Tryd.isAgg5
 z5:=Tryd.sizeOf5
 v5:=Tryd.zeroValue5
 t9:=Tryd.underlying9
 a9:=Tryd.isAgg9
 z9:=Tryd.sizeOf9
 v9:=Tryd.zeroValue9
 t21:=Tryd.underlying21
 a21:=Tryd.isAgg21
 z21:=Tryd.sizeOf21
 v21:=Tryd.zeroValue21
 t46:=Tryd.underlying45
 a46:=Tryd.isAgg45
 z46:=Tryd.sizeOf45
 v46:=Tryd.zeroValue45
 t116:=Tryd.underlying128
 a116:=Tryd.isAgg128
 z116:=Tryd.sizeOf128
 t117:=Tryd.underlying129
 a117:=Tryd.isAgg129
 z117:=Tryd.sizeOf129
 v117:=Tryd.zeroValue129
 t124:=Tryd.underlying139
 a124:=Tryd.isAgg139
 z124:=Tryd.sizeOf139
 v124:=Tryd.zeroValue139 }
open Go.RowKit Go.Lib in
theorem Tryd.strings_IndexAny_long (hv116:∀ w,(zeroValue 128).run Tryd.prog w = .ok (.agg (Array.replicate 256 (.bool false))) w) (s chars:ByteArray) (w:World) (h2:2≤chars.size) (h8:8<s.size) (hs:s.size<4294967281) (hcs:chars.size<4294967281) (hascii:∀ (j:Nat) b,chars.data.toList[j]?=some b→b.toNat<128) :
  Calls Tryd.prog 65 #[.string s,.string chars] w fun e w'=>e = .returned (.int .i64 (Lib.indexAny s.data.toList chars.data.toList))∧w'=((w.alloc (.cells (Lib.setCells chars.data.toList) 128)).alloc (.cells (Lib.setCells chars.data.toList) 128)):=Any.strings_IndexAny_long Tryd.lays153 hv116 (by kernel_rfl) s chars w h2 h8 hs hcs hascii
end Go.Proofs
namespace Go.Proofs.YtnkpoloeifhflaaDoor
section
open Go.RowKit
variable [AtQ]
theorem Auk.ofBelow {f:FuncId} {args:List Value} {r:Value} (h:∀ (F:Nat→Prop) w,ABr F w→Calls Tryd.prog f args.toArray w fun e w'=>e = .returned r∧Below w.heap.size w w'):Auk Tryd.prog f (args.map .val) (fun x=>x = .val r):=by
 intro β F w vs hF hv
 have hvs:vs=args:=by
  clear h hF
  induction args generalizing vs with
  | nil=>rw [List.map_nil,Aue.nil] at hv; exact hv
  | cons a args ih =>
   rw [List.map_cons] at hv
   obtain ⟨v,us,rfl,h1,h2⟩:=Aue.cons.1 hv
   have:=Rep.val.1 (Or.inl h1:Rep _ _ _ _)
   rw [this,ih us h2]
 subst hvs
 refine (h F w hF.2).mono ?_
 rintro e w' ⟨rfl,hb⟩
 exact ⟨_,_,F,rfl,rfl,Rep.of_val,⟨hb.os,hb.tape,hb.output,hb.size,hb.block,fun _ h=>h,fun _ _ h=>h,fun b hb'=>Nat.lt_of_lt_of_le (hF.1 b hb') hb.size⟩⟩
theorem AHT {B:Nat} (w:World):Below B w w:=⟨rfl,rfl,rfl,Nat.le_refl _,fun _ _=>rfl⟩
theorem A7O (l:List UInt8):(str l).data.toList=l:=by simp [str]
end
section
open Go.RowKit
variable [AtQ]
end
section
open Go.RowKit
variable [AtQ]
def Au3 (c:UInt8):List UInt8→List (List UInt8)
 | []=>[[]]
 | b::l=>if b=c then []::Au3 c l else match Au3 c l with
  | []=>[[b]]
  | p::ps=>(b::p)::ps
theorem AKF (c:UInt8):∀ l:List UInt8,(Lib.indexByte l c = -1∧c∉l∧Au3 c l=[l])∨∃ k:Nat,Lib.indexByte l c=(k:Int)∧k<l.length∧l[k]?=some c∧c∉l.take k∧Au3 c l=l.take k::Au3 c (l.drop (k+1))
 | [] => .inl ⟨rfl,by simp,rfl⟩
 | b::l=>by
  by_cases h:b=c
  ·subst h
   refine .inr ⟨0,by simp [Lib.indexByte],by simp,rfl,by simp,by simp [Au3]⟩
  ·rcases AKF c l with ⟨h1,h2,h3⟩ | ⟨k,h1,h2,h3,h4,h5⟩
   ·refine .inl ⟨by simp [Lib.indexByte,h,h1],by simp [h2,Ne.symm h],by rw [Au3,if_neg h,h3]⟩
   ·refine .inr ⟨k+1,?_,by simp; omega,by simpa using h3,by simp [h4,Ne.symm h],by rw [Au3,if_neg h,h5]; simp⟩
    have:¬ ((k:Int) = -1):=by omega
    simp [Lib.indexByte,h,h1,this]
theorem AYz (s:List UInt8) (c:UInt8):Auk Tryd.prog 64 [ts s,ts [c]] (fun x=>x=i64 (Lib.indexByte s c)):=by
 have h:=Auk.ofBelow (f:=64) (args:=[.string (str s),.string (str [c])]) (r := .int .i64 (Lib.indexByte s c)) (fun F w _=>by
  have h1:=Tryd.strings_Index_one (str s) c w
  rw [A7O] at h1
  refine h1.mono ?_
  rintro e w' ⟨rfl,rfl⟩
  exact ⟨rfl,AHT _⟩)
 exact h
theorem AWt {c:UInt8} {I:List UInt8→List Ob→Prop} {J E:List Ob→Prop} {id sp sid sv L:Nat} {r0:List UInt8} {H0:List Ob}
  (hI:∀ r H,I r H→L≤H.length∧r.length≤9223372036854775800∧H[sid]?=some (.obj 0 (ts r))∧H[sp]?=some (.obj 0 (ts [c]))∧H[sv]?=some (.obj 0 (i64 ((0:Nat):Int))))
  (hy:∀ r H k,I r H→k<r.length→Au3 c r=r.take k::Au3 c (r.drop (k+1))→AFu Tryd.prog id 0 [ts (r.take k)] H (fun y H'=>(y = .val (.bool true)∧H'[sid]?=some (.obj 0 (ts r))∧H'[sp]?=some (.obj 0 (ts [c]))∧I (r.drop (k+1)) (H'.set sid (.obj 0 (ts (r.drop (k+1))))))∨(y = .val (.bool false)∧J H')))
  (hend:∀ r H,I r H→Au3 c r=[r]→AFu Tryd.prog id 0 [ts r] H (fun y H'=>E H'))
  (h0:I r0 H0) (hL:H0.length=L):Atj Tryd.prog 62 [.yl id 0,.op sp 0 [],.op sid 0 [],.op sv 0 []] H0 (fun _ H'=>E H'∨J H'):=by
 refine AGO (by simp) ?_
 obtain ⟨_,_,_,q2,_⟩:=hI r0 H0 h0
 simp -dsimp (disch:=first | assumption | omega) only [↓Atf,Atb,Atd,Ate,eq_self,Nat.reduceEqDiff,↓reduceIte,Nat.reduceAdd,reduceCtorEq,↓AuC,q2,AtL]
 refine At5 (fun m e H=>∃ r,m=r.length∧e=[(0,.yl id 0),(1,.op sp 0 []),(2,.op sid 0 []),(3,.op sv 0 [])]∧I r H) r0.length ?_ ?_
 ·exact ⟨r0,rfl,rfl,h0⟩
 ·rintro n e H ⟨r,rfl,rfl,hr⟩
  obtain ⟨h1,h2,h3,h4,h5⟩:=hI r H hr
  simp -dsimp (disch:=first | assumption | omega) only [↓Atf,Atb,Atd,Ate,eq_self,Nat.reduceEqDiff,↓reduceIte,reduceCtorEq,↓AuC,h3,h4]
  refine (AYz r c).calls rfl ?_
  rintro _ rfl
  rcases AKF c r with ⟨k1,k2,k3⟩ | ⟨k,k1,k2,k3,k4,k5⟩
  ·rw [k1]
   simp -dsimp (disch:=first | assumption | omega) only [↓Atf,Atb,Atd,Ate,eq_self,Nat.reduceEqDiff,↓reduceIte,reduceCtorEq,↓AuC,h3]
   refine AFu.mono (hend r H hr k3) ?_
   rintro y H' hE
   simp -dsimp (disch:=first | assumption | omega) only [↓Atf,Atb,Atd,↓AuC]
   exact .inl hE
  ·rw [k1]
   simp -dsimp (disch:=first | assumption | omega) only [↓Atf,Atb,Atd,Ate,eq_self,Nat.reduceEqDiff,↓reduceIte,reduceCtorEq,↓AuC,h3,h5,AtL]
   refine AFu.mono (hy r H k hr k2 k5) ?_
   rintro y H' (⟨rfl,g1,g2,g3⟩ | ⟨rfl,hJ⟩)
   ·simp -dsimp (disch:=first | assumption | omega) only [↓Atf,Atb,Atd,Ate,eq_self,Nat.reduceEqDiff,↓reduceIte,reduceCtorEq,g1,g2,AtL]
    exact Atk (r.length - (k+1)) (by omega) (by rw [hL]; exact (hI _ _ g3).1) ⟨r.drop (k+1),by simp,rfl,g3⟩
   ·simp -dsimp (disch:=first | assumption | omega) only [↓Atf,Atb,Atd,Ate,eq_self,Nat.reduceEqDiff,↓reduceIte,reduceCtorEq,↓AuC]
    exact .inr hJ
end
section
open Go.RowKit
variable [AtQ]
theorem AWv (r:Int) (h0 : -2147483648≤r) (h1:r≤2147483647):Auk Tryd.prog 83 [.val (.int .i32 r)] (fun x=>x=tb (Lib.validRune r)):=by
 have h:=Auk.ofBelow (f:=83) (args:=[.int .i32 r]) (r := .bool (Lib.validRune r)) (fun F w _=>by
  refine (Tryd.utf8_ValidRune r w).mono ?_
  rintro e w' ⟨rfl,rfl⟩
  exact ⟨rfl,AHT _⟩)
 exact h
theorem ATt (s:List UInt8) (c:UInt8):Auk Tryd.prog 82 [ts s,by8 c] (fun x=>x=i64 (Lib.indexByte s c)):=by
 have h:=Auk.ofBelow (f:=82) (args:=[.string (str s),.int .u8 c.toNat]) (r := .int .i64 (Lib.indexByte s c)) (fun F w _=>by
  have h1:=Tryd.strings_IndexByte (str s) c.toNat w
  have e2:((c.toNat:Int)).toNat.toUInt8=c:=by rw [Int.toNat_natCast]; simp
  rw [A7O,e2] at h1
  refine h1.mono ?_
  rintro e w' ⟨rfl,rfl⟩
  exact ⟨rfl,AHT _⟩)
 exact h
theorem A7r {c:UInt8}:Lib.indexByte [] c = -1:=by simp [Lib.indexByte]
theorem ASE (l:List UInt8):(str l).size=l.length:=by show l.toArray.size=_; simp
theorem ARd (l:List UInt8) (k:Nat) (c:UInt8) (hk:l[k]?=some c) (hc:c.toNat<128):(Utf8.decode (str l) k).1=c.toNat∧(Utf8.decode (str l) k).2=1:=by
 obtain ⟨hl,rfl⟩:=List.getElem?_eq_some_iff.1 hk
 have h:k<(str l).size:=by rw [ASE]; exact hl
 have e:((str l)[k]'h)=l[k]:=rfl
 have:=decode_ascii (str l) k h (by rw [e]; exact hc)
 rw [this,e]; exact ⟨rfl,rfl⟩
theorem u8N {n:Nat} (h:n<256):(UInt8.ofNat n).toNat=n:=by rw [UInt8.toNat_ofNat']; omega
theorem Bb3 (r:Nat) (h0:128≤r):∃ (L:List UInt8) (x:UInt8),Utf8.encode (r:Int)=str (L++[x])∧1≤L.length∧L.length≤3∧128≤x.toNat:=by
 have key:∀ c:Nat,128≤c→∃ (L:List UInt8) (x:UInt8),(if c<0x80 then (⟨#[UInt8.ofNat c]⟩:ByteArray)
   else if c<0x800 then ⟨#[UInt8.ofNat (0xC0+c / 64),UInt8.ofNat (0x80+c % 64)]⟩
   else if c<0x10000 then ⟨#[UInt8.ofNat (0xE0+c / 4096),UInt8.ofNat (0x80+c / 64 % 64),UInt8.ofNat (0x80+c % 64)]⟩
   else ⟨#[UInt8.ofNat (0xF0+c / 262144),UInt8.ofNat (0x80+c / 4096 % 64),UInt8.ofNat (0x80+c / 64 % 64),UInt8.ofNat (0x80+c % 64)]⟩)=str (L++[x])∧1≤L.length∧L.length≤3∧128≤x.toNat:=by
  intro c hc
  have hx:128≤(UInt8.ofNat (0x80+c % 64)).toNat:=by rw [u8N (by omega)]; omega
  rw [if_neg (by omega)]
  by_cases h1:c<0x800
  ·rw [if_pos h1]; exact ⟨[_],_,rfl,by simp,by simp,hx⟩
  ·rw [if_neg h1]
   by_cases h2:c<0x10000
   ·rw [if_pos h2]; exact ⟨[_,_],_,rfl,by simp,by simp,hx⟩
   ·rw [if_neg h2]; exact ⟨[_,_,_],_,rfl,by simp,by simp,hx⟩
 unfold Utf8.encode
 refine key _ ?_
 split
 ·simpa using h0
 ·decide
set_option maxRecDepth 100000 in
theorem AUp (a b:UInt8) (ha:a.toNat<128) (hb:b.toNat<128) (r:Nat) (h0:128≤r) (h1:r≤1114111):Auk Tryd.prog 73 [ts [a,b],.val (.int .i32 (r:Int))] (fun x=>x=i64 (-1)):=by
 refine Atj.toPureV (AIe (by simp) ?_)
 by_cases hr:r=65533
 ·subst hr
  obtain ⟨d1,d2⟩:=ARd [a,b] 0 a rfl ha
  obtain ⟨d3,d4⟩:=ARd [a,b] 1 b rfl hb
  simp -dsimp (disch:=first | assumption | omega) only [↓Atf,Atb,Atd,Ate,eq_self,Nat.reduceLT,Nat.reduceEqDiff,↓reduceIte,Nat.reduceAdd,reduceCtorEq,↓AtA]
  rw [AtL]
  refine At5 (fun q e H=>∃ k:Nat,q=2 - k∧k≤2∧e=[(175,.op 0 0 [])]∧H=[.sit [a,b] k]) 2 ?_ ?_
  ·exact ⟨0,rfl,by omega,rfl,rfl⟩
  ·rintro q e H ⟨k,rfl,hk,rfl,rfl⟩
   rcases (by omega:k=0∨k=1∨k=2) with rfl | rfl | rfl
   ·simp -dsimp (disch:=first | assumption | omega) only [↓Atf,Atb,Atd,Ate,eq_self,Nat.reduceLT,Nat.reduceEqDiff,↓reduceIte,Nat.reduceAdd,↓AtA,d1,d2]
    exact Atk 1 (by omega) (by simp) ⟨1,rfl,by omega,rfl,rfl⟩
   ·simp -dsimp (disch:=first | assumption | omega) only [↓Atf,Atb,Atd,Ate,eq_self,Nat.reduceLT,Nat.reduceEqDiff,Nat.reduceSub,↓reduceIte,Nat.reduceAdd,↓AtA,d3,d4]
    exact Atk 0 (by omega) (by simp) ⟨2,rfl,by omega,rfl,rfl⟩
   ·simp -dsimp (disch:=first | assumption | omega) only [↓Atf,Atb,Atd,Ate,eq_self,Nat.reduceLT,Nat.reduceEqDiff,↓reduceIte,Nat.reduceAdd,↓AtA]
 ·simp -dsimp (disch:=first | assumption | omega) only [↓Atf,Atb,Atd,Ate,eq_self,Nat.reduceEqDiff,↓reduceIte,Nat.reduceAdd,reduceCtorEq,↓AtA]
  refine (AWv r (by omega) (by omega)).calls rfl ?_
  rintro _ rfl
  cases hv:Lib.validRune (r:Int) with
  | false =>
   simp -dsimp (disch:=first | assumption | omega) only [↓Atf,Atb,Atd,Ate,eq_self,Nat.reduceEqDiff,↓reduceIte,reduceCtorEq,↓AtA]
  | true =>
   obtain ⟨L,x,he,l1,l3,hx⟩:=Bb3 r h0
   simp -dsimp (disch:=first | assumption | omega) only [↓Atf,Atb,Atd,Ate,eq_self,Nat.reduceEqDiff,↓reduceIte,reduceCtorEq,↓AtA,he,AtL]
   refine At5 (fun q e H=>e=[(0,ts [a,b]),(7,.val (.string (str (L++[x])))),(8,i64 (L.length:Int)),(9,i64 (L.length:Int))]∧H=[]) 0 ⟨rfl,rfl⟩ ?_
   rintro q e H ⟨rfl,rfl⟩
   by_cases h2:L.length=1
   ·obtain ⟨y,rfl⟩:=List.length_eq_one_iff.1 h2
    have hbx:¬ b.toNat=x.toNat:=by omega
    simp -dsimp (disch:=first | assumption | omega) only [↓Atf,Atb,Atd,Ate,eq_self,Nat.reduceLT,Nat.reduceEqDiff,Nat.reduceSub,↓reduceIte,Nat.reduceAdd,reduceCtorEq,Nat.reduceLeDiff,↓AtA,AtL,hbx]
    refine (ATt [] x).calls rfl ?_
    rintro _ rfl
    simp -dsimp (disch:=first | assumption | omega) only [↓Atf,Atb,Atd,Ate,eq_self,Nat.reduceEqDiff,↓reduceIte,reduceCtorEq,↓AtA,A7r]
   ·simp -dsimp (disch:=first | assumption | omega) only [↓Atf,Atb,Atd,Ate,eq_self,Nat.reduceEqDiff,↓reduceIte,Nat.reduceAdd,reduceCtorEq,↓AtA,AtL]
end
section
open Go.RowKit
variable [AtQ]
theorem ASu (n b0 b1 b2 b3:Nat):(2≤(Lib.decodeN n b0 b1 b2 b3).2→1<n∧b1 / 64=2)∧(3≤(Lib.decodeN n b0 b1 b2 b3).2→2<n∧b2 / 64=2)∧(4≤(Lib.decodeN n b0 b1 b2 b3).2→3<n∧b3 / 64=2)∧(Lib.decodeN n b0 b1 b2 b3).2≤4:=by
 unfold Lib.decodeN
 by_cases h0:b0<128
 ·rw [if_pos h0]; simp
 rw [if_neg h0]
 by_cases h1:b0 / 32=6∧(1<n∧b1 / 64=2)
 ·rw [if_pos h1]; obtain ⟨_,h2,h3⟩:=h1; split<;>simp [h2,h3]
 rw [if_neg h1]
 by_cases h4:b0 / 16=14∧(1<n∧b1 / 64=2)∧(2<n∧b2 / 64=2)
 ·rw [if_pos h4]; obtain ⟨_,⟨h2,h3⟩,h5,h6⟩:=h4; split<;>simp [h2,h3,h5,h6]
 rw [if_neg h4]
 by_cases h7:b0 / 8=30∧(1<n∧b1 / 64=2)∧(2<n∧b2 / 64=2)∧(3<n∧b3 / 64=2)
 ·rw [if_pos h7]; obtain ⟨_,⟨h2,h3⟩,⟨h5,h6⟩,h8,h9⟩:=h7; split<;>simp [h2,h3,h5,h6,h8,h9]
 rw [if_neg h7]; simp
theorem BbT {l:List UInt8} {i:Nat} (h:i<l.length):(str l).get! i=l[i]:=by
 have h':i<(str l).size:=by rw [ASE]; exact h
 have e:(str l).get! i=(str l)[i]'h':=by
  simp [ByteArray.get!,getElem!_pos,h']
  rfl
 rw [e]; rfl
theorem AON {l:List UInt8} {pos j:Nat} (hj:pos<j) (hj2:j<pos+(Utf8.decode (str l) pos).2):∃ c,l[j]?=some c∧128≤c.toNat:=by
 rw [Lib.decode_at,ASE] at hj2
 obtain ⟨h1,h2,h3,h4⟩:=ASu (l.length - pos) ((str l).get! pos).toNat ((str l).get! (pos+1)).toNat ((str l).get! (pos+2)).toNat ((str l).get! (pos+3)).toNat
 generalize (Lib.decodeN (l.length - pos) ((str l).get! pos).toNat ((str l).get! (pos+1)).toNat ((str l).get! (pos+2)).toNat ((str l).get! (pos+3)).toNat).2=k at *
 rcases (by omega:j=pos+1∨j=pos+2∨j=pos+3) with rfl | rfl | rfl
 ·obtain ⟨q1,q2⟩:=h1 (by omega)
  rw [BbT (by omega)] at q2
  exact ⟨_,List.getElem?_eq_getElem (by omega),by omega⟩
 ·obtain ⟨q1,q2⟩:=h2 (by omega)
  rw [BbT (by omega)] at q2
  exact ⟨_,List.getElem?_eq_getElem (by omega),by omega⟩
 ·obtain ⟨q1,q2⟩:=h3 (by omega)
  rw [BbT (by omega)] at q2
  exact ⟨_,List.getElem?_eq_getElem (by omega),by omega⟩
theorem AUS (l:List UInt8) (k:Nat) (c:UInt8) (hk:l[k]?=some c) (hc:128≤c.toNat):128≤(Utf8.decode (str l) k).1∧(Utf8.decode (str l) k).1≤1114111∧1≤(Utf8.decode (str l) k).2:=by
 obtain ⟨hl,rfl⟩:=List.getElem?_eq_some_iff.1 hk
 have h:k<(str l).size:=by rw [ASE]; exact hl
 have e:((str l)[k]'h)=l[k]:=rfl
 obtain ⟨h1,h2⟩:=decode_high (str l) k h (by rw [e]; exact hc)
 exact ⟨h1,Lib.rune_le _ _,h2⟩
theorem ATF (a b:UInt8) (c:UInt8) (hc:c.toNat<128):Auk Tryd.prog 73 [ts [a,b],.val (.int .i32 ((c.toNat:Nat):Int))] (fun x=>x=i64 (Lib.indexByte [a,b] c)):=by
 have h:=Auk.ofBelow (f:=73) (args:=[.string (str [a,b]),.int .i32 c.toNat]) (r := .int .i64 (Lib.indexByte [a,b] c)) (fun F w _=>by
  have h1:=Tryd.strings_IndexRune_ascii (str [a,b]) c.toNat w (by omega) (by omega)
  have e2:((c.toNat:Int)).toNat.toUInt8=c:=by rw [Int.toNat_natCast]; simp
  rw [A7O,e2] at h1
  refine h1.mono ?_
  rintro e w' ⟨rfl,rfl⟩
  exact ⟨rfl,AHT _⟩)
 exact h
end
section
open Go.RowKit
variable [AtQ]
theorem ANi (m:List UInt8):∀ l:List UInt8,0≤Lib.indexAny l m↔∃ x∈l,x∈m
 | []=>by simp [Lib.indexAny]
 | b::l=>by
  have ih:=ANi m l
  have hg:=Lib.indexAny_ge m l
  unfold Lib.indexAny
  by_cases hb:b∈m
  ·simp [hb]
  ·have hb':m.contains b=false:=by simpa using hb
   rw [if_neg (by rw [hb']; simp)]
   by_cases h:Lib.indexAny l m = -1
   ·rw [h]
    have:¬ ∃ x∈l,x∈m:=by rw [←ih,h]; omega
    simp [hb,this]
   ·have h':0≤Lib.indexAny l m:=by omega
    have h2:(Lib.indexAny l m == -1)=false:=by simpa using h
    rw [h2]
    have:=ih.1 h'
    simp [hb,this]
    omega
set_option maxRecDepth 100000 in
theorem AXI (s:List UInt8) (a b:UInt8) (hs:s.length≤1000) (ha:a.toNat<128) (hb:b.toNat<128):Auk Tryd.prog 65 [ts s,ts [a,b]] (fun x=>∃ i:Int,x=i64 i∧(0≤i↔∃ x∈s,x∈[a,b])):=by
 by_cases h8:8<s.length
 ·have h:=Auk.ofBelow (f:=65) (args:=[.string (str s),.string (str [a,b])]) (r := .int .i64 (Lib.indexAny s [a,b])) (fun F w _=>by
   have h1:=Tryd.strings_IndexAny_long (by intro w; kernel_rfl) (str s) (str [a,b]) w (by rw [ASE]; simp) (by rw [ASE]; exact h8) (by rw [ASE]; omega) (by rw [ASE]; simp) (fun j x hx=>by
    rw [A7O] at hx
    have:=List.mem_of_getElem? hx
    simp at this
    rcases this with rfl | rfl
    ·exact ha
    ·exact hb)
   rw [A7O,A7O] at h1
   refine h1.mono ?_
   rintro e w' ⟨rfl,rfl⟩
   exact ⟨rfl,rfl,rfl,rfl,by simp; omega,fun i hi=>by rw [AvB _ _ (by simp; omega),AvB _ _ hi]⟩)
  refine Auk.mono (args:=[ts s,ts [a,b]]) h ?_
  rintro x rfl
  exact ⟨_,rfl,ANi _ _⟩
 ·refine Atj.toPureV (AJw (by simp) ?_)
  have n1:¬ ([a,b]:List UInt8)=[]:=by simp
  simp -dsimp (disch:=first | assumption | omega) only [↓Atf,Atb,Atd,Ate,eq_self,Nat.reduceEqDiff,↓reduceIte,Nat.reduceAdd,reduceCtorEq,↓Au8,AtL]
  refine ABi (by simp) ?_
  simp -dsimp (disch:=first | assumption | omega) only [↓Atf,Atb,Atd,Ate,eq_self,Nat.reduceEqDiff,↓reduceIte,reduceCtorEq,↓ABo,↓Au8,AtL]
  refine At5 (fun q e H=>∃ pos:Nat,q=s.length - pos∧(∀ j x,j<pos→s[j]?=some x→x∉[a,b])∧e=[(1,ts [a,b]),(45,.op 0 0 [])]∧H=[.sit s pos]) s.length ?_ ?_
  ·exact ⟨0,rfl,fun j x h=>by omega,rfl,rfl⟩
  ·rintro q e H ⟨pos,rfl,hno,rfl,rfl⟩
   by_cases hp:pos<s.length
   ·obtain ⟨c,hc⟩:∃ c,s[pos]?=some c:=⟨_,List.getElem?_eq_getElem hp⟩
    by_cases h7:c.toNat<128
    ·obtain ⟨d1,d2⟩:=ARd s pos c hc h7
     simp -dsimp (disch:=first | assumption | omega) only [↓Atf,Atb,Atd,Ate,eq_self,Nat.reduceEqDiff,↓reduceIte,↓Au8,d1,d2]
     refine (ATF a b c h7).calls rfl ?_
     rintro _ rfl
     by_cases hm:c∈[a,b]
     ·obtain ⟨k,hk⟩:∃ k:Nat,Lib.indexByte [a,b] c=(k:Int):=by
       rcases AKF c [a,b] with ⟨_,h,_⟩ | ⟨k,h,_⟩
       ·exact absurd hm h
       ·exact ⟨k,h⟩
      rw [hk]
      simp -dsimp (disch:=first | assumption | omega) only [↓Atf,Atb,Atd,Ate,eq_self,Nat.reduceEqDiff,↓reduceIte,↓Au8]
      exact ⟨_,rfl,fun _=>⟨c,List.mem_of_getElem? hc,hm⟩,fun _=>by omega⟩
     ·have hk:Lib.indexByte [a,b] c = -1:=by
       rcases AKF c [a,b] with ⟨h,_⟩ | ⟨k,_,h,h2,_⟩
       ·exact h
       ·exact absurd (List.mem_of_getElem? h2) hm
      rw [hk]
      simp -dsimp (disch:=first | assumption | omega) only [↓Atf,Atb,Atd,Ate,eq_self,Nat.reduceEqDiff,↓reduceIte]
      refine Atk (s.length - (pos+1)) (by omega) (by simp) ⟨pos+1,rfl,fun j x hj hx => ?_,rfl,rfl⟩
      by_cases e:j=pos
      ·subst e; rw [hc] at hx; cases hx; exact hm
      ·exact hno j x (by omega) hx
    ·obtain ⟨d1,d2,d3⟩:=AUS s pos c hc (by omega)
     have hsk:∀ j,pos<j→j<pos+(Utf8.decode (str s) pos).2→∃ c,s[j]?=some c∧128≤c.toNat:=fun j h h2=>AON h h2
     simp -dsimp (disch:=first | assumption | omega) only [↓Atf,Atb,Atd,Ate,eq_self,Nat.reduceEqDiff,↓reduceIte,↓Au8]
     generalize (Utf8.decode (str s) pos).1=r at *
     generalize (Utf8.decode (str s) pos).2=k at *
     refine (AUp a b ha hb r d1 d2).calls rfl ?_
     rintro _ rfl
     simp -dsimp (disch:=first | assumption | omega) only [↓Atf,Atb,Atd,Ate,eq_self,Nat.reduceEqDiff,↓reduceIte]
     have hi2:∀ y:UInt8,128≤y.toNat→y∉[a,b]:=fun y hy hm=>by
      simp at hm
      rcases hm with rfl | rfl<;>omega
     refine Atk (s.length - (pos+k)) (by omega) (by simp) ⟨pos+k,rfl,fun j x hj hx => ?_,rfl,rfl⟩
     by_cases e:j=pos
     ·subst e; rw [hc] at hx; cases hx; exact hi2 _ (by omega)
     ·by_cases h2:j<pos
      ·exact hno j x h2 hx
      ·obtain ⟨y,hy,hy2⟩:=hsk j (by omega) hj
       rw [hy] at hx; cases hx; exact hi2 _ hy2
   ·simp -dsimp (disch:=first | assumption | omega) only [↓Atf,Atb,Atd,Ate,eq_self,Nat.reduceEqDiff,↓reduceIte,↓Au8]
    refine ⟨-1,rfl,fun h=>by omega,fun ⟨x,hx,hm⟩ => ?_⟩
    obtain ⟨j,hj,rfl⟩:=List.mem_iff_getElem.1 hx
    exact absurd hm (hno j _ (by omega) (List.getElem?_eq_getElem hj))
theorem AS7 (s:List UInt8) (a b:UInt8) (hs:s.length≤1000) (ha:a.toNat<128) (hb:b.toNat<128):Auk Tryd.prog 55 [ts s,ts [a,b]] (fun x=>x=tb (decide (∃ x∈s,x∈[a,b]))):=by
 refine Atj.toPureV (AGb (by simp) ?_)
 simp -dsimp (disch:=first | assumption | omega) only [↓Atf,Atb,Atd,Ate,eq_self,Nat.reduceEqDiff,↓reduceIte,Nat.reduceAdd,reduceCtorEq,↓AAz]
 refine (AXI s a b hs ha hb).calls rfl ?_
 rintro _ ⟨i,rfl,hi⟩
 have e:(decide (∃ x∈s,x∈[a,b]))=decide (0≤i):=by simp only [hi]
 rw [e]
 simp -dsimp (disch:=first | assumption | omega) only [↓Atf,Atb,Atd,Ate,eq_self,↓reduceIte,↓AAz]
 simp
end
section
open Go.RowKit
variable [AtQ]
theorem ATG {c:UInt8} {l:List UInt8} (h:c∉l):Au3 c l=[l]:=by
 induction l with
 | nil=>rfl
 | cons b l ih=>rw [Au3,if_neg (fun e=>h (by simp [e])),ih (fun e=>h (by simp [e]))]
theorem ATQ {c:UInt8} {l:List UInt8} {k:Nat} (h:l[k]?=some c) (hn:c∉l.take k):Au3 c l=l.take k::Au3 c (l.drop (k+1)):=by
 induction l generalizing k with
 | nil=>simp at h
 | cons b l ih =>
  cases k with
  | zero=>simp at h; simp [Au3,h]
  | succ k =>
   rw [List.getElem?_cons_succ] at h
   rw [List.take_succ_cons] at hn
   rw [Au3,if_neg (fun e=>hn (by simp [e])),ih h (fun e=>hn (by simp [e]))]; rfl
theorem AX0 (s:List UInt8) (c:UInt8) (H:List Ob):Atj Tryd.prog 41 [ts s,ts [c]] H (fun x H'=>x = .fn (.func 62) [] [.op (H.length+1) 0 [],.op H.length 0 [],.op (H.length+2) 0 []]∧H'=H++[.obj 0 (ts s),.obj 0 (ts [c]),.obj 0 (i64 ((0:Nat):Int))]):=by
 refine AJv (by simp) ?_
 simp -dsimp (disch:=first | assumption | omega) only [↓Atf,Atb,Atd,Ate,eq_self,Nat.reduceEqDiff,↓reduceIte,Nat.reduceAdd,reduceCtorEq,↓AB2]
 refine AJt (by simp) ?_
 simp -dsimp (disch:=first | assumption | omega) only [↓Atf,Atb,Atd,Ate,eq_self,Nat.reduceEqDiff,↓reduceIte,Nat.reduceAdd,reduceCtorEq,↓ALy,↓AB2,List.append_assoc]
end
end Go.Proofs.YtnkpoloeifhflaaDoor
