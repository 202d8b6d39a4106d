/- What the proof of DeltaMovedCard stands on (texts merged; names shortened by a program): part 6. -/
import Derived.Test.YthlbcfmbldcngaaDoorQE
import Derived.Test.YthlbcfmbldcngaaDoorQD
import Derived.Test.YthlbcfmbldcngaaDoorProg
import Derived.KernelRfl
import Derived.WalkKit
import Derived.LaidEql
import Derived.Stop.Asserts
import Derived.RowKitTokens
import Derived.Lib.BytesEntry
import Derived.Lib.Bytealg
set_option linter.defProp false
set_option linter.unusedSectionVars false
set_option linter.unusedSimpArgs false
set_option linter.unusedVariables false
namespace Go.Proofs.YthlbcfmbldcngaaDoor
section
variable [A7]
set_option maxRecDepth 100000
def TE:Ad := .seq (.ops [⟨some 2,.p (.mov (.c (.int .i64 0))),none⟩] [0])
 (.seq (.ops [⟨some 3,.s (.alloc (.val (.int .i64 0))),none⟩] [0,3])
 (.seq (.block 0 (.seq (.ops [⟨some 5,.p (.mov (.t 0)),none⟩,⟨some 6,.p (.eqN 1 (.t 5) (.c .nilIface) false),none⟩,⟨some 4,.p (.mov (.t 6)),none⟩] [0,3,4])
 (.cond (.t 4)
 (.seq (.ops [⟨some 2,.p (.mov (.c (.int .i64 0))),none⟩] [2])
  (.ret))
 (.seq (.ops [⟨some 8,.p (.mov (.t 0)),none⟩,⟨some 9,.p (.iface 57 (.t 3)),none⟩,⟨some 10,.s (.call 23 [.t 8,.t 9]),none⟩,⟨some 7,.p (.mov (.t 10)),none⟩] [3,7])
  (.cond (.t 7)
  (.seq (.ops [⟨some 11,.p (.load false 1 (.t 3)),none⟩,⟨some 2,.p (.mov (.t 11)),none⟩] [2])
   (.ret))
  (.skip))))))
 (.seq (.ops [⟨some 2,.p (.mov (.c (.int .i64 (-1)))),none⟩] [2])
 (.ret))))
def Ti:List VR:=[.tmp 2]
theorem VL:Tryd.f12.body.bind (trC Tryd.prog Tryd.f12.ntmps)=some (er TE):=by kernel_rfl
theorem VW:trR Tryd.prog Tryd.f12.results.toList=some Ti:=by kernel_rfl
def JB:Ad := .seq (.seq (.ops [⟨some 36,.p (.mov (.t 8)),none⟩,⟨some 37,.p (.mov (.t 6)),none⟩,⟨some 38,.p (.lenV (.t 37)),none⟩,⟨some 39,.p (.bin 3 .lss (.t 36) (.t 38)),none⟩] [6,7,8,39])
 (.cond (.t 39)
 (.skip)
 (.exit 0)))
 (.seq (.block 1 (.ops [⟨some 42,.p (.mov (.t 6)),none⟩,⟨some 43,.p (.mov (.t 8)),none⟩,⟨some 44,.p (.mov (.t 6)),none⟩,⟨some 45,.p (.mov (.t 8)),none⟩,⟨some 46,.p (.idxA 1 (.t 44) (.t 45)),none⟩,⟨some 47,.p (.load false 1 (.t 46)),none⟩,⟨some 48,.p (.bin 5 .xor (.t 47) (.c (.int .u8 85))),none⟩,⟨some 49,.p (.idxA 1 (.t 42) (.t 43)),none⟩,⟨none,.s (.store 1 (.t 49) (.t 48)),none⟩] [6,7,8]))
 (.ops [⟨some 40,.p (.mov (.t 8)),none⟩,⟨some 41,.p (.bin 3 .add (.t 40) (.c (.int .i64 1))),none⟩,⟨some 8,.p (.mov (.t 41)),none⟩] [6,7,8]))
def O3:Ad := .block 0 (.loop [6,7,8] JB)
def OJ:Ad := .seq (.ops [⟨some 50,.p (.mov (.t 7)),none⟩,⟨some 4,.p (.mov (.t 50)),none⟩] [4])
 (.ret)
def O5:Ad := .seq (.seq (.ops [⟨some 8,.p (.mov (.c (.int .i64 0))),none⟩] [6,7,8])
 O3)
 OJ
def OY:Ad := .seq (.ops [⟨some 20,.p (.mov (.t 7)),none⟩,⟨some 21,.p (.mov (.t 20)),none⟩,⟨some 22,.p (.mov (.t 6)),some ⟨21,true⟩⟩,⟨some 23,.p (.mov (.t 5)),some ⟨21,true⟩⟩,⟨some 24,.p (.idxA 1 (.t 22) (.t 23)),some ⟨21,true⟩⟩,⟨some 25,.p (.load false 1 (.t 24)),some ⟨21,true⟩⟩,⟨some 26,.p (.bin 5 .eql (.t 25) (.c (.int .u8 71))),some ⟨21,true⟩⟩,⟨some 27,.p (.pick (.t 21) (.t 26) (.c (.bool false))),none⟩,⟨some 28,.p (.mov (.t 27)),none⟩,⟨some 29,.p (.mov (.t 6)),some ⟨28,true⟩⟩,⟨some 30,.p (.mov (.t 5)),some ⟨28,true⟩⟩,⟨some 31,.p (.bin 3 .add (.t 30) (.c (.int .i64 1))),some ⟨28,true⟩⟩,⟨some 32,.p (.idxA 1 (.t 29) (.t 31)),some ⟨28,true⟩⟩,⟨some 33,.p (.load false 1 (.t 32)),some ⟨28,true⟩⟩,⟨some 34,.p (.bin 5 .eql (.t 33) (.c (.int .u8 72))),some ⟨28,true⟩⟩,⟨some 35,.p (.pick (.t 28) (.t 34) (.c (.bool false))),none⟩,⟨some 7,.p (.mov (.t 35)),none⟩] [6,7])
 O5
def OI:Ad := .seq (.ops [⟨some 15,.p (.mov (.t 6)),none⟩,⟨some 16,.p (.mov (.t 5)),none⟩,⟨some 17,.p (.slV 1 (.t 15) none (some (.t 16))),none⟩,⟨some 18,.p (.mov (.t 1)),none⟩,⟨some 19,.s (.call 9 [.t 17,.t 18]),none⟩,⟨some 7,.p (.mov (.t 19)),none⟩] [5,6,7])
 OY
def OC:Ad := .seq (.ops [⟨some 11,.p (.mov (.t 0)),none⟩,⟨some 12,.p (.mov (.t 5)),none⟩,⟨some 13,.p (.bin 3 .add (.t 12) (.c (.int .i64 2))),none⟩,⟨some 14,.p (.slV 1 (.t 11) none (some (.t 13))),none⟩,⟨some 6,.p (.mov (.t 14)),none⟩] [1,5,6])
 OI
def OZ:Ad := .seq (.ops [⟨some 9,.p (.mov (.t 1)),none⟩,⟨some 10,.p (.lenV (.t 9)),none⟩,⟨some 5,.p (.mov (.t 10)),none⟩] [0,1,5])
 OC
def Ue:Ad := .seq (.ops [⟨some 4,.p (.mov (.c (.bool false))),none⟩] [0,1])
 OZ
def Ua:List VR:=[.tmp 4]
theorem Yh:Tryd.f7.body.bind (trC Tryd.prog Tryd.f7.ntmps)=some (er Ue):=by kernel_rfl
theorem X4:trR Tryd.prog Tryd.f7.results.toList=some Ua:=by kernel_rfl
def KZ:Ad := .seq (.block 1 (.seq (.draw 4 [⟨some 17,.p (.mov (.t 0)),none⟩,⟨some 18,.p (.mov (.t 5)),none⟩,⟨some 19,.p (.idxA 1 (.t 17) (.t 18)),none⟩,⟨some 20,.p (.load false 1 (.t 19)),none⟩,⟨some 21,.p (.mov (.t 1)),none⟩,⟨some 22,.p (.mov (.t 5)),none⟩,⟨some 23,.p (.idxA 1 (.t 21) (.t 22)),none⟩,⟨some 24,.p (.load false 1 (.t 23)),none⟩,⟨some 25,.p (.bin 5 .neq (.t 20) (.t 24)),none⟩] [0,1,5,25])
 (.cond (.t 25)
 (.seq (.ops [⟨some 4,.p (.mov (.c (.bool false))),none⟩] [4])
  (.ret))
 (.skip))))
 (.ops [⟨some 15,.p (.mov (.t 5)),none⟩,⟨some 16,.p (.bin 3 .add (.t 15) (.c (.int .i64 1))),none⟩,⟨some 5,.p (.mov (.t 16)),none⟩] [0,1,5])
def Hu:Ad := .seq (.seq (.ops [⟨some 11,.p (.mov (.t 5)),none⟩,⟨some 12,.p (.mov (.t 0)),none⟩,⟨some 13,.p (.lenV (.t 12)),none⟩,⟨some 14,.p (.bin 3 .lss (.t 11) (.t 13)),none⟩] [0,1,5,14])
 (.cond (.t 14)
 (.skip)
 (.exit 0)))
 KZ
def Qp:Ad := .block 0 (.loop [0,1,5] Hu)
def Qg:Ad := .seq (.ops [⟨some 4,.p (.mov (.c (.bool true))),none⟩] [4])
 (.ret)
def Qn:Ad := .seq (.seq (.ops [⟨some 5,.p (.mov (.c (.int .i64 0))),none⟩] [0,1,5])
 Qp)
 Qg
def La:Ad := .seq (.seq (.ops [⟨some 6,.p (.mov (.t 0)),none⟩,⟨some 7,.p (.lenV (.t 6)),none⟩,⟨some 8,.p (.mov (.t 1)),none⟩,⟨some 9,.p (.lenV (.t 8)),none⟩,⟨some 10,.p (.bin 3 .neq (.t 7) (.t 9)),none⟩] [0,1,10])
 (.cond (.t 10)
 (.seq (.ops [⟨some 4,.p (.mov (.c (.bool false))),none⟩] [4])
  (.ret))
 (.skip)))
 Qn
def Qr:Ad := .seq (.ops [⟨some 4,.p (.mov (.c (.bool false))),none⟩] [0,1])
 La
def QH:List VR:=[.tmp 4]
theorem Zc:Tryd.f9.body.bind (trC Tryd.prog Tryd.f9.ntmps)=some (er Qr):=by kernel_rfl
theorem YA:trR Tryd.prog Tryd.f9.results.toList=some QH:=by kernel_rfl
def GU:Ad := .seq (.ops [⟨some 13,.p (.mov (.t 0)),none⟩,⟨some 14,.p (.nilc (.t 13)),none⟩,⟨some 15,.p (.fieldA 0 0 (.t 14)),none⟩,⟨some 16,.p (.load false 1 (.t 15)),none⟩,⟨some 17,.p (.idxA 1 (.t 16) (.c (.int .i64 0))),none⟩,⟨some 18,.p (.load false 1 (.t 17)),none⟩,⟨some 3,.p (.mov (.t 18)),none⟩] [0,3])
 (.seq (.ops [⟨some 19,.p (.mov (.t 0)),none⟩,⟨some 20,.p (.mov (.t 0)),none⟩,⟨some 21,.p (.nilc (.t 20)),none⟩,⟨some 22,.p (.fieldA 0 0 (.t 21)),none⟩,⟨some 23,.p (.load false 1 (.t 22)),none⟩,⟨some 24,.p (.slV 1 (.t 23) (some (.c (.int .i64 1))) none),none⟩,⟨some 25,.p (.nilc (.t 19)),none⟩,⟨some 26,.p (.fieldA 0 0 (.t 25)),none⟩,⟨none,.s (.store 1 (.t 26) (.t 24)),none⟩] [3])
 (.seq (.ops [⟨some 27,.p (.mov (.t 3)),none⟩,⟨some 28,.p (.conv .i64 (.t 27)),none⟩,⟨some 2,.p (.mov (.t 28)),none⟩] [2])
 (.ret)))
def DX:Ad := .seq (.seq (.ops [⟨some 4,.p (.mov (.t 0)),none⟩,⟨some 5,.p (.nilc (.t 4)),none⟩,⟨some 6,.p (.fieldA 0 0 (.t 5)),none⟩,⟨some 7,.p (.load false 1 (.t 6)),none⟩,⟨some 8,.p (.lenV (.t 7)),none⟩,⟨some 9,.p (.bin 3 .eql (.t 8) (.c (.int .i64 0))),none⟩] [0,9])
 (.cond (.t 9)
 (.seq (.ops [⟨some 10,.p (.mov (.t 0)),none⟩,⟨some 11,.p (.nilc (.t 10)),none⟩,⟨some 12,.p (.fieldA 1 1 (.t 11)),none⟩,⟨none,.s (.store 1 (.t 12) (.c (.bool true))),none⟩] [])
  (.seq (.ops [⟨some 2,.p (.mov (.c (.int .i64 0))),none⟩] [2])
  (.ret)))
 (.skip)))
 GU
def Fb:Ad := .seq (.ops [⟨some 2,.p (.mov (.c (.int .i64 0))),none⟩] [0])
 DX
def E5:List VR:=[.tmp 2]
theorem QV:Tryd.f19.body.bind (trC Tryd.prog Tryd.f19.ntmps)=some (er Fb):=by kernel_rfl
theorem Qv:trR Tryd.prog Tryd.f19.results.toList=some E5:=by kernel_rfl
def BI:Ad := .seq (.ops [⟨some 20,.p (.mov (.t 0)),none⟩,⟨some 21,.p (.mov (.t 0)),none⟩,⟨some 22,.p (.nilc (.t 21)),none⟩,⟨some 23,.p (.fieldA 1 1 (.t 22)),none⟩,⟨some 24,.p (.load false 1 (.t 23)),none⟩,⟨some 25,.p (.mov (.t 24)),none⟩,⟨some 26,.p (.mov (.t 4)),some ⟨25,false⟩⟩,⟨some 27,.p (.bin 3 .gtr (.t 26) (.c (.int .i64 0))),some ⟨25,false⟩⟩,⟨some 28,.p (.mov (.t 27)),some ⟨25,false⟩⟩,⟨some 29,.p (.mov (.t 5)),some ⟨28,true⟩⟩,⟨some 30,.p (.bin 3 .eql (.t 29) (.c (.int .i64 0))),some ⟨28,true⟩⟩,⟨some 31,.p (.pick (.t 28) (.t 30) (.c (.bool false))),some ⟨25,false⟩⟩,⟨some 32,.p (.pick (.t 25) (.c (.bool true)) (.t 31)),none⟩,⟨some 33,.p (.nilc (.t 20)),none⟩,⟨some 34,.p (.fieldA 1 1 (.t 33)),none⟩,⟨none,.s (.store 1 (.t 34) (.t 32)),none⟩] [3])
 (.seq (.ops [⟨some 35,.p (.mov (.t 3)),none⟩,⟨some 2,.p (.mov (.t 35)),none⟩] [2])
 (.ret))
def Be:Ad := .cond (.t 19)
 BI
 (.skip)
def Bf:Ad := .seq (.ops [⟨some 18,.p (.mov (.t 5)),none⟩,⟨some 19,.p (.bin 3 .lss (.t 18) (.c (.int .i64 128))),none⟩] [0,3,4,5,6,19])
 Be
def Bd:Ad := .seq (.ops [⟨some 11,.p (.mov (.t 3)),none⟩,⟨some 12,.p (.mov (.t 5)),none⟩,⟨some 13,.p (.bin 3 .and (.t 12) (.c (.int .i64 127))),none⟩,⟨some 14,.p (.mov (.t 4)),none⟩,⟨some 15,.p (.bin 3 .mul (.c (.int .i64 7)) (.t 14)),none⟩,⟨some 16,.p (.bin 3 .shl (.t 13) (.t 15)),none⟩,⟨some 17,.p (.bin 3 .or (.t 11) (.t 16)),none⟩,⟨some 3,.p (.mov (.t 17)),none⟩] [0,3,4,5,6])
 Bf
def GN:Ad := .seq (.ops [⟨some 9,.p (.mov (.t 0)),none⟩,⟨some 10,.s (.call 19 [.t 9]),none⟩,⟨some 5,.p (.mov (.t 10)),none⟩] [0,3,4,5,6])
 Bd
def G7:Ad := .seq (.block 1 (.seq (.ops [⟨some 8,.p (.mov (.t 6)),none⟩,⟨some 4,.p (.mov (.t 8)),none⟩] [0,3,4,6])
 GN))
 (.ops [⟨some 36,.p (.bin 3 .add (.t 6) (.c (.int .i64 1))),none⟩,⟨some 6,.p (.mov (.t 36)),none⟩] [0,3,6])
def DT:Ad := .seq (.cond (.t 7)
 (.skip)
 (.exit 0))
 G7
def DY:Ad := .seq (.ops [⟨some 7,.p (.bin 3 .lss (.t 6) (.c (.int .i64 5))),none⟩] [0,3,6,7])
 DT
def GX:Ad := .block 0 (.loop [0,3,6] DY)
def FP:Ad := .seq (.ops [⟨some 37,.p (.mov (.t 0)),none⟩,⟨some 38,.p (.nilc (.t 37)),none⟩,⟨some 39,.p (.fieldA 1 1 (.t 38)),none⟩,⟨none,.s (.store 1 (.t 39) (.c (.bool true))),none⟩] [])
 (.seq (.ops [⟨some 2,.p (.mov (.c (.int .i64 0))),none⟩] [2])
 (.ret))
def Gs:Ad := .seq (.seq (.ops [⟨some 6,.p (.mov (.c (.int .i64 0))),none⟩] [0,3,6])
 GX)
 FP
def Gt:Ad := .seq (.ops [⟨some 3,.p (.mov (.c (.int .i64 0))),none⟩] [0,3])
 Gs
def JC:Ad := .seq (.ops [⟨some 2,.p (.mov (.c (.int .i64 0))),none⟩] [0])
 Gt
def Jy:List VR:=[.tmp 2]
theorem Qu:Tryd.f18.body.bind (trC Tryd.prog Tryd.f18.ntmps)=some (er JC):=by kernel_rfl
theorem QG:trR Tryd.prog Tryd.f18.results.toList=some Jy:=by kernel_rfl
def Fp:Ad := .ops [⟨some 14,.p (.mov (.t 5)),none⟩,⟨some 15,.p (.mov (.t 0)),none⟩,⟨some 16,.s (.call 19 [.t 15]),none⟩,⟨some 17,.p (.mov (.t 6)),none⟩,⟨some 18,.p (.bin 3 .mul (.c (.int .i64 8)) (.t 17)),none⟩,⟨some 19,.p (.bin 3 .shl (.t 16) (.t 18)),none⟩,⟨some 20,.p (.bin 3 .or (.t 14) (.t 19)),none⟩,⟨some 5,.p (.mov (.t 20)),none⟩] [0,1,5,6]
def Dj:Ad := .seq (.block 1 (.seq (.seq (.ops [⟨some 11,.p (.mov (.t 1)),none⟩,⟨some 12,.p (.bin 3 .and (.t 11) (.c (.int .i64 1))),none⟩,⟨some 13,.p (.bin 3 .eql (.t 12) (.c (.int .i64 1))),none⟩] [0,1,5,6,13])
 (.cond (.t 13)
 Fp
 (.skip)))
 (.ops [⟨some 21,.p (.mov (.t 1)),none⟩,⟨some 22,.p (.bin 3 .shr (.t 21) (.c (.int .u64 1))),none⟩,⟨some 1,.p (.mov (.t 22)),none⟩] [0,1,5,6])))
 (.ops [⟨some 9,.p (.mov (.t 6)),none⟩,⟨some 10,.p (.bin 3 .add (.t 9) (.c (.int .i64 1))),none⟩,⟨some 6,.p (.mov (.t 10)),none⟩] [0,1,5,6])
def BX:Ad := .seq (.seq (.ops [⟨some 7,.p (.mov (.t 1)),none⟩,⟨some 8,.p (.bin 3 .gtr (.t 7) (.c (.int .i64 0))),none⟩] [0,1,5,6,8])
 (.cond (.t 8)
 (.skip)
 (.exit 0)))
 Dj
def Fh:Ad := .block 0 (.loop [0,1,5,6] BX)
def FN:Ad := .seq (.ops [⟨some 23,.p (.mov (.t 5)),none⟩,⟨some 4,.p (.mov (.t 23)),none⟩] [4])
 (.ret)
def FC:Ad := .seq (.seq (.ops [⟨some 6,.p (.mov (.c (.int .i64 0))),none⟩] [0,1,5,6])
 Fh)
 FN
def Fg:Ad := .seq (.ops [⟨some 5,.p (.mov (.c (.int .i64 0))),none⟩] [0,1,5])
 FC
def Ih:Ad := .seq (.ops [⟨some 4,.p (.mov (.c (.int .i64 0))),none⟩] [0,1])
 Fg
def Ij:List VR:=[.tmp 4]
theorem PD:Tryd.f20.body.bind (trC Tryd.prog Tryd.f20.ntmps)=some (er Ih):=by kernel_rfl
theorem O8:trR Tryd.prog Tryd.f20.results.toList=some Ij:=by kernel_rfl
end
section
open Go.RowKit
variable [A7]
theorem AdO {l m:List UInt8} {k:Nat} (h:l.take k=m.take k) (h1:k<l.length) (h2:k<m.length) (e:l[k]=m[k]):l.take (k+1)=m.take (k+1):=by
 rw [List.take_succ_eq_append_getElem h1,List.take_succ_eq_append_getElem h2,h,e]
theorem AnA {x y:UInt8} (h:x≠y):¬ (x.toNat=y.toNat):=fun e=>h (UInt8.toNat_inj.1 e)
theorem same (l m:List UInt8) (hl:l.length≤9223372036854775807) (hm:m.length≤9223372036854775807):NF Tryd.prog 9 [slB l,slB m] (fun x=>x=tb (decide (l=m))):=by
 refine Au.toPure (Ie Tryd.func9 Zc YA (by simp [Tryd.f9]) ?_)
 by_cases hlen:l.length=m.length
 case neg =>
  have hne:l≠m:=fun e=>hlen (by rw [e])
  simp (disch:=omega) only [Qr,La,QH,hlen,hne,AaX,↓IE,↓IC,↓EF,↓P5,↓Bc,↓Dl,↓IJ,↓KY,↓Ql,↓AO,↓BP,UA,Uo,AB,Az,EM,DN,BP,AO,Ko,AaX,eq_self,Dn,↓reduceIte,Nat.reduceEqDiff,BC,Nat.reduceAdd,Nat.zero_add,AbW,decide_false,Bool.not_false,reduceCtorEq,and_self,eq_self,List.length_map,Zg]
 simp (disch:=omega) only [Qr,La,Qn,Qp,QH,hlen,↓IE,↓OV,↓IC,↓EF,↓IG,↓Bc,↓Dl,↓IJ,↓KY,↓Ql,↓AO,↓BP,UA,Uo,AB,Az,EM,DN,BP,AO,AaX,eq_self,Dn,↓reduceIte,Nat.reduceEqDiff,BC,true_and,Nat.reduceAdd,Nat.zero_add,AbW,decide_true,Bool.not_true,Bool.false_eq_true,reduceCtorEq,eq_self,List.length_map]
 rw [Yb]
 refine ⟨fun n e H=>∃ (k:Nat),n=l.length - k∧k≤l.length∧l.take k=m.take k∧e=[(0,slB l),(1,slB m),(5,i64 k)]∧H=[],l.length,?_,?_⟩
 ·exact ⟨0,by simp,by omega,by simp,rfl,rfl⟩
 ·rintro n e H ⟨k,rfl,hk,ht,rfl,rfl⟩
  by_cases hkl:k<l.length
  ·have hkm:k<m.length:=by omega
   have g1:l[k]?=some l[k]:=by simp [hkl]
   have g2:m[k]?=some m[k]:=by simp [hkm]
   by_cases he:l[k]=m[k]
   ·have hx:=AdO ht hkl hkm he
    have he':l[k].toNat=m[k].toNat:=by rw [he]
    simp (disch:=omega) only [Hu,KZ,hkl,g1,g2,he',↓IE,↓Aha,↓OV,↓IC,↓EF,↓IG,↓P5,↓Bc,↓Dl,↓AcJ,↓Anl,↓IJ,↓KY,↓Po,↓Xo,↓Ql,Gl,Cm,UA,Uo,AB,Az,ET,Ko,eq_self,Dn,↓reduceIte,Nat.reduceEqDiff,List.length_nil,BC,true_and,and_true,List.take_zero,List.take_succ_cons,List.drop_succ_cons,List.take_nil,Xv,AbW,Tz,decide_true,Bool.not_true,Bool.false_eq_true,reduceCtorEq,Option.map_some,and_self,eq_self,Nat.mul_one,List.length_map,Int.toNat_natCast,List.getElem?_map,Int.natCast_nonneg,List.drop_zero,AaS,QT]
    exact ⟨l.length - (k+1),0,by omega,⟨by simp,.inr ⟨by simp [Aax,Ze,AaP,Abw,Bool.and_self],by simp [Aa2]⟩⟩,k+1,rfl,by omega,hx,by simp⟩
   ·have he':=AnA he
    have hne:l≠m:=fun e=>he (by subst e; rfl)
    simp (disch:=omega) only [Hu,KZ,hkl,g1,g2,he',hne,↓IE,↓Aha,↓OV,↓IC,↓EF,↓IG,↓P5,↓Bc,↓Dl,↓AcJ,↓Anl,↓IJ,↓KY,↓Po,↓Xo,↓Ql,Gl,Cm,UA,Uo,AB,Az,ET,Ko,eq_self,Dn,↓reduceIte,Nat.reduceEqDiff,List.length_nil,BC,and_true,List.take_zero,List.take_succ_cons,List.drop_succ_cons,List.take_nil,AbW,Tz,decide_true,decide_false,Bool.not_false,reduceCtorEq,Option.map_some,and_self,eq_self,Nat.mul_one,List.length_map,Int.toNat_natCast,List.getElem?_map,Int.natCast_nonneg,List.drop_zero,QT,Zg]
  ·have hke:k=l.length:=by omega
   have heq:l=m:=by rw [hke,List.take_length,hlen,List.take_length] at ht; exact ht
   simp (disch:=omega) only [Hu,Qg,hkl,eq_true heq,↓IE,↓IC,↓EF,↓Xl,↓P5,↓Bc,↓Dl,↓IJ,↓KY,↓Ql,↓AO,↓BP,UA,Uo,AB,Az,BP,AO,Ko,eq_self,Dn,↓reduceIte,Nat.reduceEqDiff,List.length_nil,BC,Tz,decide_true,decide_false,Bool.false_eq_true,reduceCtorEq,and_self,eq_self,List.length_map,QT]
abbrev x85 (l:List UInt8):List UInt8:=l.map (· ^^^ 85)
theorem AgV {c:List UInt8} {k:Nat} (hk:k<c.length):(x85 (c.take k)++c.drop k).set k (c[k] ^^^ 85)=x85 (c.take (k+1))++c.drop (k+1):=by
 have h1:(x85 (c.take k)).length=k:=by simp; omega
 rw [List.set_append_right _ _ (by omega),h1,Nat.sub_self,List.drop_eq_getElem_cons hk,List.set_cons_zero,List.take_succ_eq_append_getElem hk,x85,x85,List.map_append,List.append_assoc]
 rfl
theorem AcC (l:List UInt8) (hl:l.length≤1000000) {H:List Ob} {id ver:Nat} {K:TV→List Ob→Prop} (ho:H[id]?=some (.obj ver (.arr (l.length+2) 1 ((l++[71,72]).map by8))))
  (hk:K (tb true) (H.set id (.obj ver (.arr (l.length+2) 1 ((x85 (l++[71,72])).map by8))))) :
  Au Tryd.prog 7 [.os 1 id ver [] 0 l.length (l.length+2),slB l] H K:=by
 refine Ie Tryd.func7 Yh X4 (by simp [Tryd.f7]) ?_
 have hid:id<H.length:=(List.getElem?_eq_some_iff.1 ho).1
 have c2:((l.length:Int)+2)=((l.length+2:Nat):Int):=by omega
 have g1:(l++[71,72])[l.length]?=some 71:=by simp
 have g2:(l++[71,72])[l.length+1]?=some 72:=by simp
 have hL:(l++[71,72]).length=l.length+2:=by simp
 have ht:(l++[71,72]).take l.length=l:=by simp
 generalize hc:l++[71,72]=c at *
 simp (disch:=omega) only [Ue,OZ,OC,OI,Ua,c2,↓IE,↓IC,↓Bc,↓Dl,↓VN,↓IJ,↓KY,↓Ql,↓Ahp,↓XY,ZJ,Zp,UA,Uo,AB,Az,EM,DN,eq_self,Int.reduceLE,Dn,↓reduceIte,Nat.reduceEqDiff,List.map_cons,List.map_nil,BC,true_and,Nat.reduceAdd,Nat.zero_add,Xv,Int.reduceToNat,reduceCtorEq,and_self,↓all_cons,↓all_nil,bnd,eq_self,Nat.sub_zero,List.length_map,Int.toNat_natCast,Int.natCast_nonneg,YX,Nat.reduceLeDiff]
 refine ⟨by omega,by omega,(same l l (by omega) (by omega)).lends (args':=[slB l,slB l]) ?_ ?_⟩
 ·simp (disch:=omega) only [ho,hL,ht,Abx,Nat.le_add_right,UU,AbH,AdU,Yd,VZ,Abx,eq_self,↓reduceIte,Nat.zero_add,Option.map_some,and_self,eq_self,List.length_map,List.drop_zero,←List.map_drop,←List.map_take]
 ·rintro x rfl
  refine ⟨rfl,?_⟩
  rw [show tb (decide (l=l))=tb true from by simp]
  simp (disch:=omega) only [OY,O5,O3,ho,g1,g2,↓IE,↓IC,↓IG,↓Bc,↓Dl,↓VB,↓UB,Rn,↓Adm,↓IJ,↓XF,↓KY,↓Po,↓Xo,↓AO,↓BP,Gl,Cm,UA,Uo,Hr,WC,AB,Az,ET,BP,AO,eq_self,UInt8.reduceToNat,Int.cast_ofNat_Int,Dn,↓reduceIte,Nat.reduceEqDiff,List.nil_append,BC,true_and,Nat.zero_add,Xv,XP,decide_true,Option.bind_some,Option.map_some,and_self,eq_self,Nat.mul_one,Int.toNat_natCast,List.getElem?_map,Int.natCast_nonneg,AaS,QT]
  refine ⟨by omega,by omega,?_⟩
  rw [Yb]
  refine ⟨fun n e H'=>∃ (k:Nat),n=c.length - k∧k≤c.length∧e=[(6,.os 1 id ver [] 0 (l.length+2) (l.length+2)),(7,tb true),(8,i64 k)]∧H'=H.set id (.obj ver (.arr (l.length+2) 1 ((x85 (c.take k)++c.drop k).map by8))),c.length,?_,?_⟩
  ·refine ⟨0,by simp,by omega,rfl,?_⟩
   have e0:x85 (c.take 0)++c.drop 0=c:=by simp
   obtain ⟨h1,h2⟩:=List.getElem?_eq_some_iff.1 ho
   rw [e0,←h2,List.set_getElem_self]
  ·rintro n e H' ⟨k,rfl,hkl,rfl,rfl⟩
   have gs:∀ o,(H.set id o)[id]?=some o:=fun o=>by simp [hid]
   by_cases hkc:k<c.length
   ·have hk2:k<l.length+2:=by omega
    have hlen:(x85 (c.take k)).length=k:=by simp; omega
    have g3:(x85 (c.take k)++c.drop k)[k]?=some c[k]:=by
     rw [List.getElem?_append_right (by omega),hlen,Nat.sub_self,List.getElem?_drop]; simp [hkc]
    have g4:=AgV hkc
    have h85:∀ (t:TypeId) (x:UInt8),Ei t .xor (.int .u8 (x.toNat:Int)) (.int .u8 85)=some (.int .u8 ((x ^^^ 85).toNat:Int)):=fun t x=>Ahg (t:=t) (x:=x) (y:=85)
    generalize x85 (c.take k)++c.drop k=r at *
    generalize c[k]=y at *
    simp (disch:=omega) only [JB,hk2,gs,g3,g4,h85,AfD,List.set_set,↓IE,↓OV,↓IC,↓EF,↓IG,↓Bc,↓Dl,↓NE,↓IJ,↓KY,↓Po,↓Xo,↓Ql,↓Pn,Gl,XJ,Cm,ZZ,UA,Uo,Hr,WC,Ht,Zw,AB,Az,ET,eq_self,Dn,↓reduceIte,Nat.reduceEqDiff,List.nil_append,BC,true_and,Nat.zero_add,Xv,Tz,decide_true,Option.bind_some,Option.map_some,and_self,eq_self,Nat.mul_one,Int.toNat_natCast,List.getElem?_map,Int.natCast_nonneg,AaS,QT,List.length_set]
    exact ⟨c.length - (k+1),H.length,by omega,⟨Nat.le_refl _,.inl (Nat.le_refl _)⟩,k+1,rfl,by omega,by simp,by rw [List.take_of_length_le (by simp)]⟩
   ·have hke:k=c.length:=by omega
    have hk2:¬ k<l.length+2:=by omega
    have e0:x85 (c.take k)++c.drop k=x85 c:=by rw [hke,List.take_length,List.drop_length,List.append_nil]
    simp (disch:=omega) only [JB,OJ,hk2,e0,hk,↓IE,↓IC,↓EF,↓Xl,↓P5,↓Bc,↓Dl,↓IJ,↓KY,↓Ql,↓AO,↓BP,UA,AB,Az,BP,AO,eq_self,Dn,↓reduceIte,Nat.reduceEqDiff,BC,Tz,decide_false,Bool.false_eq_true,and_self,eq_self,QT]
end
section
open Go.RowKit
variable [A7]
abbrev rdr (r:List UInt8) (bad:Bool):TV := .agg [slB r,tb bad]
def rdB:List UInt8→Bool→Nat×List UInt8×Bool
 | [],_=>(0,[],true)
 | b::r,bad=>(b.toNat,r,bad)
def szG:Nat→Nat→Nat→List UInt8→Bool→Nat×List UInt8×Bool
 | 0,_,_,r,_=>(0,r,true)
 | f+1,i,n,r,bad =>
  if (rdB r bad).1<128 then (n ||| ((rdB r bad).1 &&& 127)*2 ^ (7*i),(rdB r bad).2.1,(rdB r bad).2.2 || (decide (0<i) && decide ((rdB r bad).1=0)))
  else szG f (i+1) (n ||| ((rdB r bad).1 &&& 127)*2 ^ (7*i)) (rdB r bad).2.1 (rdB r bad).2.2
theorem Ab5 (r:List UInt8) (bad:Bool):(rdB r bad).1<256:=by
 cases r with
 | nil=>simp [rdB]
 | cons b r=>exact b.toNat_lt
section
variable {H:List Ob} {id ver:Nat} {K:TV→List Ob→Prop} {r:List UInt8} {bad:Bool}
theorem Ahw (hl:r.length≤1000000) (ho:H[id]?=some (.obj ver (rdr r bad))) (hk:K (i64 (rdB r bad).1) (H.set id (.obj ver (rdr (rdB r bad).2.1 (rdB r bad).2.2)))) :
  Au Tryd.prog 19 [.op id ver []] H K:=by
 refine Ie Tryd.func19 QV Qv (by simp [Tryd.f19]) ?_
 cases r with
 | nil =>
  simp only [rdB] at hk
  simp (disch:=omega) only [Fb,DX,E5,ho,↓IE,↓IC,↓EF,↓P5,↓Bc,↓Dl,↓NE,↓IJ,↓KY,↓Po,↓Nu,↓Ql,↓U2,↓Pn,↓AO,↓BP,YE,Cm,KF,FD,EY,JK,UA,Uo,Hr,Nw,Ht,KI,AB,Az,EM,DN,ET,BP,AO,eq_self,Int.cast_ofNat_Int,Dn,↓reduceIte,List.nil_append,List.length_nil,List.getElem?_cons_zero,List.getElem?_cons_succ,List.set_cons_zero,List.set_cons_succ,List.map_nil,BC,true_and,Nat.reduceAdd,List.take_zero,List.take_succ_cons,Nat.zero_add,XP,decide_true,reduceCtorEq,Option.bind_some,Option.map_some,and_self,eq_self]
  exact hk
 | cons b r =>
  simp only [rdB] at hk
  have h0:¬ (((r.length+1:Nat):Int)=0):=by omega
  have hc:IntKind.i64.wrap (b.toNat:Int)=b.toNat:=EP (by omega) (by have:=b.toNat_lt; omega)
  simp (disch:=omega) only [Fb,DX,GU,E5,ho,h0,hc,↓IE,↓OV,↓IC,↓EF,↓P5,↓Bc,↓Dl,↓NE,↓IJ,↓KY,↓Akr,↓Po,↓Nu,↓Xo,↓Ql,↓Ahp,↓U2,↓Pn,↓AO,↓BP,Gl,YE,Aca,Cm,KF,FD,UA,Uo,Hr,Nw,Ht,KI,AB,Az,EM,DN,ET,BP,AO,eq_self,Int.reduceLE,Dn,↓reduceIte,Nat.reduceEqDiff,List.nil_append,List.length_cons,List.getElem?_cons_zero,List.set_cons_zero,List.map_cons,BC,true_and,List.take_zero,List.drop_succ_cons,Nat.zero_add,XP,Int.reduceToNat,decide_false,Bool.false_eq_true,reduceCtorEq,Option.bind_some,Option.map_some,and_self,bnd,eq_self,List.length_map,Int.toNat_natCast,List.drop_zero,←List.map_drop,←List.map_take,YX,Nat.reduceLeDiff]
  refine ⟨⟨by omega,by omega⟩,?_⟩
  rw [List.take_of_length_le (by omega)]
  exact hk
theorem ZU {f i n:Nat} (h:¬ (rdB r bad).1<128):szG (f+1) i n r bad=szG f (i+1) (n ||| ((rdB r bad).1 &&& 127)*2 ^ (7*i)) (rdB r bad).2.1 (rdB r bad).2.2:=by rw [szG,if_neg h]
theorem Adq {f i n:Nat} (h:(rdB r bad).1<128):szG (f+1) i n r bad=(n ||| ((rdB r bad).1 &&& 127)*2 ^ (7*i),(rdB r bad).2.1,(rdB r bad).2.2 || (decide (0<i) && decide ((rdB r bad).1=0))):=by rw [szG,if_pos h]
theorem Wx:(rdB r bad).2.1.length≤r.length:=by
 cases r<;>simp [rdB]
theorem AeS (hl:r.length≤1000000) (ho:H[id]?=some (.obj ver (rdr r bad))) (hk:K (i64 (szG 5 0 0 r bad).1) (H.set id (.obj ver (rdr (szG 5 0 0 r bad).2.1 (szG 5 0 0 r bad).2.2)))) :
  Au Tryd.prog 18 [.op id ver []] H K:=by
 refine Ie Tryd.func18 Qu QG (by simp [Tryd.f18]) ?_
 have hid:id<H.length:=(List.getElem?_eq_some_iff.1 ho).1
 have gs:∀ o,(H.set id o)[id]?=some o:=fun o=>by simp [hid]
 simp (disch:=omega) only [JC,Gt,Gs,GX,Jy,↓IE,↓IC,↓IG,↓Bc,↓Dl,↓IJ,↓AO,↓BP,Uo,AB,Az,EM,DN,BP,AO,eq_self,Dn,↓reduceIte,Nat.reduceEqDiff,Nat.zero_add,reduceCtorEq,eq_self]
 rw [Yb]
 refine ⟨fun m e H'=>∃ (i n:Nat) (r':List UInt8) (bad':Bool),m=5 - i∧i≤5∧n<2 ^ (7*i)∧r'.length≤1000000∧szG (5 - i) i n r' bad'=szG 5 0 0 r bad∧e=[(0,.op id ver []),(3,i64 n),(6,i64 i)]∧H'=H.set id (.obj ver (rdr r' bad')),5,?_,?_⟩
 ·refine ⟨0,0,r,bad,rfl,by omega,by omega,hl,rfl,rfl,?_⟩
  obtain ⟨h1,h2⟩:=List.getElem?_eq_some_iff.1 ho
  rw [←h2,List.set_getElem_self]
 ·rintro m e H' ⟨i,n,r',bad',rfl,hi,hn,hr,he,rfl,rfl⟩
  by_cases hi5:i<5
  ·have hi5':((i:Nat):Int)<5:=by omega
   simp (disch:=omega) only [DY,DT,G7,GN,hi5',↓IE,↓OV,↓IC,↓EF,↓IG,↓Bc,↓Dl,↓VN,↓IJ,↓KY,↓XY,WG,UA,Uo,AB,Az,eq_self,Dn,↓reduceIte,Nat.reduceEqDiff,List.map_cons,List.map_nil,BC,true_and,Tz,decide_true,reduceCtorEq,and_self,↓all_cons,↓all_nil,eq_self]
   refine Ahw hr (gs _) ?_
   have hb:=Ab5 r' bad'
   have hle:=Wx (r:=r') (bad:=bad')
   obtain ⟨j,hj⟩:∃ j,5 - i=j+1:=⟨4 - i,by omega⟩
   have hb127:(rdB r' bad').1 &&& 127≤127:=Nat.and_le_right
   have hp:2 ^ (7*i)≤2 ^ 28:=Nat.pow_le_pow_right (by omega) (by omega)
   have hpp:0<2 ^ (7*i):=Nat.pow_pos (by omega)
   have hm:((rdB r' bad').1 &&& 127)*2 ^ (7*i)≤127*2 ^ (7*i):=Nat.mul_le_mul_right _ hb127
   have hp7:2 ^ (7*(i+1))=128*2 ^ (7*i):=by rw [Nat.mul_add,Nat.pow_add]; omega
   have hor:n ||| ((rdB r' bad').1 &&& 127)*2 ^ (7*i)<2 ^ (7*(i+1)):=Nat.or_lt_two_pow (by omega) (by omega)
   have c7:(7:Int)*(i:Int)=((7*i:Nat):Int):=by omega
   have hshl:∀ t,Ei t .shl (.int .i64 (((rdB r' bad').1 &&& 127:Nat):Int)) (.int .i64 ((7*i:Nat):Int))=some (.int .i64 ((((rdB r' bad').1 &&& 127)*2 ^ (7*i):Nat):Int)):=fun t=>by
    have e:(((rdB r' bad').1 &&& 127:Nat):Int)*2 ^ (((7*i:Nat):Int).toNat)=((((rdB r' bad').1 &&& 127)*2 ^ (7*i):Nat):Int):=by
     rw [Int.toNat_natCast,Int.natCast_mul,Int.natCast_pow]; rfl
    rw [Ail (by omega) (by omega) (by rw [e]; omega) (by rw [e]; omega),e]
   have hand:∀ t,Ei t .and (.int .i64 ((rdB r' bad').1:Int)) (.int .i64 127)=some (.int .i64 (((rdB r' bad').1 &&& 127:Nat):Int)):=fun t=>Afi (by omega) (by omega) (by omega) (by omega)
   have horv:∀ t,Ei t .or (.int .i64 (n:Int)) (.int .i64 ((((rdB r' bad').1 &&& 127)*2 ^ (7*i):Nat):Int))=some (.int .i64 ((n ||| ((rdB r' bad').1 &&& 127)*2 ^ (7*i):Nat):Int)):=fun t=>An9 (by omega) (by omega) (by omega) (by omega)
   rw [hj] at he
   by_cases hlt:(rdB r' bad').1<128
   ·rw [Adq hlt] at he
    rw [←he] at hk
    have hlt':(((rdB r' bad').1:Nat):Int)<128:=by omega
    generalize n ||| ((rdB r' bad').1 &&& 127)*2 ^ (7*i)=n2 at *
    cases hbad:(rdB r' bad').2.2 with
    | true =>
     rw [hbad] at hk
     simp (disch:=omega) only [Bd,Bf,Be,BI,c7,hshl,hand,horv,hlt',gs,List.set_set,↓IE,↓IC,↓EF,↓P5,↓Bc,↓Dl,↓NE,↓VB,↓UB,Rn,Acu,↓IJ,↓XF,↓KY,↓Po,↓Nu,↓U2,↓Pn,Gl,Cm,KF,FD,EY,JK,UA,Uo,Hr,Nw,Ht,KI,AB,Az,ET,eq_self,Dn,↓reduceIte,Nat.reduceEqDiff,List.nil_append,List.getElem?_cons_zero,List.getElem?_cons_succ,List.set_cons_zero,List.set_cons_succ,BC,true_and,Nat.reduceAdd,List.take_zero,List.take_succ_cons,YD,Tz,decide_true,Bool.true_eq_false,reduceCtorEq,Option.bind_some,Option.map_some,and_self,eq_self]
     rw [Bool.true_or] at hk
     exact hk
    | false =>
     rw [hbad,Bool.false_or] at hk
     by_cases h0i:0<i
     ·have h0i':(0:Int)<((i:Nat):Int):=by omega
      by_cases hb0:(rdB r' bad').1=0
      ·have hb0':((((rdB r' bad').1:Nat):Int)=0)=True:=eq_true (by omega)
       rw [decide_eq_true h0i,decide_eq_true hb0,Bool.true_and] at hk
       simp (disch:=omega) only [Bd,Bf,Be,BI,c7,hshl,hand,horv,hlt',h0i',hb0',gs,List.set_set,↓IE,↓IC,↓EF,↓P5,↓Bc,↓Dl,↓NE,↓VB,↓UB,Rn,↓Adm,↓IJ,↓XF,↓KY,↓Po,↓Nu,↓U2,↓Pn,Gl,Cm,KF,FD,EY,JK,UA,Uo,Hr,Nw,Ht,KI,AB,Az,ET,eq_self,Dn,↓reduceIte,Nat.reduceEqDiff,List.nil_append,List.getElem?_cons_zero,List.getElem?_cons_succ,List.set_cons_zero,List.set_cons_succ,BC,true_and,Nat.reduceAdd,List.take_zero,List.take_succ_cons,YD,XP,Tz,Y8,decide_true,Bool.false_eq_true,reduceCtorEq,Option.bind_some,Option.map_some,and_self,eq_self]
       exact hk
      ·have hb0':¬ (((rdB r' bad').1:Nat):Int)=0:=by omega
       rw [decide_eq_true h0i,decide_eq_false hb0,Bool.true_and] at hk
       simp (disch:=omega) only [Bd,Bf,Be,BI,c7,hshl,hand,horv,hlt',h0i',hb0',gs,List.set_set,↓IE,↓IC,↓EF,↓P5,↓Bc,↓Dl,↓NE,↓VB,↓UB,Rn,↓Adm,↓IJ,↓XF,↓KY,↓Po,↓Nu,↓U2,↓Pn,Gl,Cm,KF,FD,EY,JK,UA,Uo,Hr,Nw,Ht,KI,AB,Az,ET,eq_self,Dn,↓reduceIte,Nat.reduceEqDiff,List.nil_append,List.getElem?_cons_zero,List.getElem?_cons_succ,List.set_cons_zero,List.set_cons_succ,BC,true_and,Nat.reduceAdd,List.take_zero,List.take_succ_cons,YD,XP,Tz,Y8,decide_true,decide_false,Bool.false_eq_true,reduceCtorEq,Option.bind_some,Option.map_some,and_self,eq_self]
       exact hk
     ·have h0i':¬ (0:Int)<((i:Nat):Int):=by omega
      rw [decide_eq_false h0i,Bool.false_and] at hk
      simp (disch:=omega) only [Bd,Bf,Be,BI,c7,hshl,hand,horv,hlt',h0i',gs,List.set_set,↓IE,↓IC,↓EF,↓P5,↓Bc,↓Dl,↓NE,↓VB,↓UB,Rn,↓Adm,↓IJ,↓XF,↓KY,↓Po,↓Nu,↓U2,↓Pn,Gl,Cm,KF,FD,EY,JK,UA,Uo,Hr,Nw,Ht,KI,AB,Az,ET,eq_self,Dn,↓reduceIte,Nat.reduceEqDiff,List.nil_append,List.getElem?_cons_zero,List.getElem?_cons_succ,List.set_cons_zero,List.set_cons_succ,BC,true_and,Nat.reduceAdd,List.take_zero,List.take_succ_cons,YD,Tz,Y8,decide_true,decide_false,Bool.false_eq_true,reduceCtorEq,Option.bind_some,Option.map_some,and_self,eq_self]
      exact hk
   ·rw [ZU hlt] at he
    have hlt':¬ (((rdB r' bad').1:Nat):Int)<128:=by omega
    simp (disch:=omega) only [Bd,Bf,Be,c7,hshl,hand,horv,hlt',List.set_set,↓IE,↓OV,↓IC,↓EF,↓Bc,↓Dl,↓IJ,↓KY,UA,Uo,AB,Az,eq_self,Dn,↓reduceIte,Nat.reduceEqDiff,BC,true_and,Xv,YD,Tz,decide_false,Bool.false_eq_true,reduceCtorEq,eq_self,AaS,List.length_set]
    exact ⟨5 - (i+1),H.length,by omega,⟨Nat.le_refl _,.inl (by simp)⟩,i+1,_,(rdB r' bad').2.1,(rdB r' bad').2.2,rfl,by omega,hor,by omega,by rw [show 5 - (i+1)=j from by omega]; exact he,rfl,by rw [List.take_of_length_le (by simp)]⟩
  ·have hi5':¬ ((i:Nat):Int)<5:=by omega
   have hi':i=5:=by omega
   subst hi'
   rw [show (5:Nat) - 5=0 from rfl,szG] at he
   rw [←he] at hk
   simp (disch:=omega) only [DY,DT,FP,gs,List.set_set,↓IE,↓IC,↓EF,↓Xl,↓P5,↓Bc,↓Dl,↓NE,↓IJ,↓KY,↓Nu,↓U2,↓Pn,↓AO,↓BP,Cm,KF,FD,EY,JK,UA,Uo,Ht,KI,AB,Az,BP,AO,eq_self,Int.cast_ofNat_Int,Int.reduceLT,Dn,↓reduceIte,Nat.reduceEqDiff,List.nil_append,List.getElem?_cons_zero,List.getElem?_cons_succ,List.set_cons_zero,List.set_cons_succ,BC,true_and,Nat.reduceAdd,List.take_zero,List.take_succ_cons,Tz,decide_false,Bool.false_eq_true,reduceCtorEq,Option.bind_some,Option.map_some,and_self,eq_self]
   exact hk
def nbG:Nat→Nat→Nat→Nat→List UInt8→Bool→Nat×List UInt8×Bool
 | 0,_,_,n,r,bad=>(n,r,bad)
 | f+1,w,i,n,r,bad =>
  if w % 2=1 then nbG f (w / 2) (i+1) (n ||| (rdB r bad).1*2 ^ (8*i)) (rdB r bad).2.1 (rdB r bad).2.2
  else nbG f (w / 2) (i+1) n r bad
theorem WZ:∀ {f i n:Nat} {r:List UInt8} {bad:Bool},nbG f 0 i n r bad=(n,r,bad)
 | 0,i,n,r,bad=>rfl
 | f+1,i,n,r,bad=>by rw [nbG,if_neg (by omega)]; exact WZ
theorem Apb {w0:Nat} (hw:w0<16) (hl:r.length≤1000000) (ho:H[id]?=some (.obj ver (rdr r bad))) (hk:K (i64 (nbG 4 w0 0 0 r bad).1) (H.set id (.obj ver (rdr (nbG 4 w0 0 0 r bad).2.1 (nbG 4 w0 0 0 r bad).2.2)))) :
  Au Tryd.prog 20 [.op id ver [],i64 w0] H K:=by
 refine Ie Tryd.func20 PD O8 (by simp [Tryd.f20]) ?_
 have hid:id<H.length:=(List.getElem?_eq_some_iff.1 ho).1
 have gs:∀ o,(H.set id o)[id]?=some o:=fun o=>by simp [hid]
 simp (disch:=omega) only [Ih,Fg,FC,Fh,Ij,↓IE,↓IC,↓IG,↓Bc,↓Dl,↓IJ,↓AO,↓BP,Uo,AB,Az,EM,DN,BP,AO,eq_self,Dn,↓reduceIte,Nat.reduceEqDiff,Nat.reduceAdd,Nat.zero_add,reduceCtorEq,eq_self]
 rw [Yb]
 refine ⟨fun m e H'=>∃ (f w i n:Nat) (r':List UInt8) (bad':Bool),m=f∧i=4 - f∧f≤4∧w<2 ^ f∧n<2 ^ (8*i)∧r'.length≤1000000∧nbG f w i n r' bad'=nbG 4 w0 0 0 r bad∧e=[(0,.op id ver []),(1,i64 w),(5,i64 n),(6,i64 i)]∧H'=H.set id (.obj ver (rdr r' bad')),4,?_,?_⟩
 ·refine ⟨4,w0,0,0,r,bad,rfl,rfl,by omega,by omega,by omega,hl,rfl,rfl,?_⟩
  obtain ⟨h1,h2⟩:=List.getElem?_eq_some_iff.1 ho
  rw [←h2,List.set_getElem_self]
 ·rintro m e H' ⟨f,w,i,n,r',bad',rfl,hi,hf4,hwf,hn,hr,he,rfl,rfl⟩
  by_cases hw0:0<w
  ·have hw0':(0:Int)<((w:Nat):Int):=by omega
   obtain ⟨j,rfl⟩:∃ j,m=j+1:=⟨m - 1,by
    cases m with
    | zero=>simp at hwf; omega
    | succ m=>rfl⟩
   have hw16:w<16:=Nat.lt_of_lt_of_le hwf (Nat.pow_le_pow_right (n:=2) (by omega) hf4)
   have hw2:w / 2<2 ^ j:=by rw [Nat.pow_succ] at hwf; omega
   have hi3:i≤3:=by omega
   have hp:2 ^ (8*i)≤2 ^ 24:=Nat.pow_le_pow_right (by omega) (by omega)
   have hpp:0<2 ^ (8*i):=Nat.pow_pos (by omega)
   have hp8:2 ^ (8*(i+1))=256*2 ^ (8*i):=by rw [Nat.mul_add,Nat.pow_add]; omega
   have hand:∀ t,Ei t .and (.int .i64 ((w:Nat):Int)) (.int .i64 1)=some (.int .i64 ((w % 2:Nat):Int)):=fun t=>by
    rw [Afi (by omega) (by omega) (by omega) (by omega),Int.toNat_natCast]
    rw [show (1:Int).toNat=1 from rfl,Nat.and_one_is_mod]
   have hshr:∀ t,Ei t .shr (.int .i64 ((w:Nat):Int)) (.int .u64 1)=some (.int .i64 ((w / 2:Nat):Int)):=fun t=>by
    rw [Ajb (by omega) (by omega) (by omega)]
    rw [show (1:Int).toNat=1 from rfl,Int.pow_one,Int.natCast_ediv]; rfl
   by_cases hodd:w % 2=1
   ·have hodd':(((w % 2:Nat):Int)=1)=True:=eq_true (by omega)
    rw [nbG,if_pos hodd] at he
    simp (disch:=omega) only [BX,Dj,Fp,hw0',hand,hodd',↓IE,↓OV,↓IC,↓EF,↓IG,↓Bc,↓Dl,↓VN,↓IJ,↓KY,↓XY,WG,UA,Uo,AB,Az,eq_self,Dn,↓reduceIte,Nat.reduceEqDiff,List.map_cons,List.map_nil,BC,true_and,Xv,YD,XP,Y8,Ajb,Int.reduceToNat,decide_true,reduceCtorEq,and_self,↓all_cons,↓all_nil,eq_self,AaS]
    refine Ahw hr (gs _) ?_
    have hb:=Ab5 r' bad'
    have hle:=Wx (r:=r') (bad:=bad')
    have hm:(rdB r' bad').1*2 ^ (8*i)≤255*2 ^ (8*i):=Nat.mul_le_mul_right _ (by omega)
    have hor:n ||| (rdB r' bad').1*2 ^ (8*i)<2 ^ (8*(i+1)):=Nat.or_lt_two_pow (by omega) (by omega)
    have c8:(8:Int)*(i:Int)=((8*i:Nat):Int):=by omega
    have hshl:∀ t,Ei t .shl (.int .i64 (((rdB r' bad').1:Nat):Int)) (.int .i64 ((8*i:Nat):Int))=some (.int .i64 (((rdB r' bad').1*2 ^ (8*i):Nat):Int)):=fun t=>by
     have e:(((rdB r' bad').1:Nat):Int)*2 ^ (((8*i:Nat):Int).toNat)=(((rdB r' bad').1*2 ^ (8*i):Nat):Int):=by
      rw [Int.toNat_natCast,Int.natCast_mul,Int.natCast_pow]; rfl
     rw [Ail (by omega) (by omega) (by rw [e]; omega) (by rw [e]; omega),e]
    have horv:∀ t,Ei t .or (.int .i64 (n:Int)) (.int .i64 (((rdB r' bad').1*2 ^ (8*i):Nat):Int))=some (.int .i64 ((n ||| (rdB r' bad').1*2 ^ (8*i):Nat):Int)):=fun t=>An9 (by omega) (by omega) (by omega) (by omega)
    simp (disch:=omega) only [c8,hshl,horv,List.set_set,eq_self,BC,true_and,eq_self,List.length_set]
    exact ⟨j,H.length,by omega,⟨by simp,.inl (by simp)⟩,j,w / 2,i+1,_,(rdB r' bad').2.1,(rdB r' bad').2.2,rfl,by omega,by omega,hw2,hor,by omega,he,rfl,by rw [List.take_of_length_le (by simp)]⟩
   ·have hodd':(((w % 2:Nat):Int)=1)=False:=eq_false (by omega)
    rw [nbG,if_neg hodd] at he
    simp (disch:=omega) only [BX,Dj,hw0',hand,hodd',hshr,↓IE,↓OV,↓IC,↓EF,↓IG,↓Bc,↓Dl,↓IJ,↓KY,UA,Uo,AB,Az,eq_self,Dn,↓reduceIte,Nat.reduceEqDiff,BC,true_and,Xv,XP,Y8,decide_true,decide_false,Bool.false_eq_true,reduceCtorEq,eq_self,AaS,List.length_set]
    exact ⟨j,H.length,by omega,⟨by simp,.inl (by simp)⟩,j,w / 2,i+1,n,r',bad',rfl,by omega,by omega,hw2,by omega,hr,he,rfl,by rw [List.take_of_length_le (by simp)]⟩
  ·have hw0':¬ (0:Int)<((w:Nat):Int):=by omega
   have hw00:w=0:=by omega
   subst hw00
   rw [WZ] at he
   rw [←he] at hk
   simp (disch:=omega) only [BX,FN,↓IE,↓IC,↓EF,↓Xl,↓P5,↓Bc,↓Dl,↓IJ,↓KY,↓AO,↓BP,UA,Uo,AB,Az,BP,AO,eq_self,Int.cast_ofNat_Int,Int.reduceLT,Dn,↓reduceIte,Nat.reduceEqDiff,BC,true_and,Y8,decide_false,Bool.false_eq_true,reduceCtorEq,eq_self]
   exact hk
end
end
section
variable [A7]
set_option maxRecDepth 100000
end
section
open Go.RowKit
variable [A7]
theorem Z8 {n x k:Nat} (h:n<2 ^ k):n ||| x*2 ^ k=n+x*2 ^ k:=by
 have:=Nat.shiftLeft_add_eq_or_of_lt h x
 rw [Nat.shiftLeft_eq] at this
 rw [Nat.or_comm,←this,Nat.add_comm]
theorem AdY {c:Nat}:c &&& 127=c % 128:=by
 have:=Nat.and_two_pow_sub_one_eq_mod c 7
 simpa using this
theorem Wp {f i n:Nat} {y:UInt8} {r:List UInt8} {bad:Bool} (h:¬ y.toNat<128):szG (f+1) i n (y::r) bad=szG f (i+1) (n ||| (y.toNat &&& 127)*2 ^ (7*i)) r bad:=ZU h
theorem TS {f i n:Nat} {y:UInt8} {r:List UInt8} {bad:Bool} (h:y.toNat<128):szG (f+1) i n (y::r) bad=(n ||| (y.toNat &&& 127)*2 ^ (7*i),r,bad || (decide (0<i) && decide (y.toNat=0))):=Adq h
def szs (b:List UInt8):Option (Nat×Nat×List UInt8) :=
 if (szG 5 0 0 b false).2.2 then none else
 if (szG 5 0 0 (szG 5 0 0 b false).2.1 false).2.2 then none else some ((szG 5 0 0 b false).1,(szG 5 0 0 (szG 5 0 0 b false).2.1 false).1,(szG 5 0 0 (szG 5 0 0 b false).2.1 false).2.1)
theorem WN:∀ (f i n:Nat) (r:List UInt8) (bad:Bool),(szG f i n r bad).2.1.length≤r.length
 | 0,i,n,r,bad=>Nat.le_refl _
 | f+1,i,n,r,bad=>by
  rw [szG]
  split
  ·exact Wx
  ·exact Nat.le_trans (WN f _ _ _ _) Wx
end
section
variable [A7]
set_option maxRecDepth 100000
def NP:Ad := .seq (.ops [mv_ 59 6,mv_ 60 10,po_ 61 (.bin 3 .and (.t 60) (ci_ 15)),so_ 62 (.call 20 [.t 59,.t 61]),mv_ 63 6,mv_ 64 10,po_ 65 (.bin 3 .shr (.t 64) (.c (.int .u64 ((4:Nat):Int)))),po_ 66 (.bin 3 .and (.t 65) (ci_ 7)),so_ 67 (.call 20 [.t 63,.t 66]),mv_ 12 62,mv_ 13 67] [0,6,8,9,10,12,13])
 (.seq (.seq (.ops [mv_ 68 13,po_ 69 (.bin 3 .eql (.t 68) (ci_ 0))] [0,6,8,9,10,12,13,69])
 (.cond (.t 69)
 (.ops [po_ 13 (.mov (ci_ 65536))] [0,6,8,9,10,12,13])
 (.skip)))
 (.ops [mv_ 70 0,mv_ 11 70] [0,6,8,9,10,11,12,13]))
def NZ:Ad := .cond (.t 55)
 NP
 (.skip)
def N8:Ad := .seq (.ops [mv_ 56 10,po_ 57 (.bin 3 .and (.t 56) (ci_ 128)),po_ 58 (.bin 3 .gtr (.t 57) (ci_ 0)),mv_ 55 58] [0,6,8,9,10,11,12,13,55])
 NZ
def NV:Ad := .cond (.t 51)
 (.seq (.ops [po_ 54 (.iface 34 (ci_ 30)),po_ 4 (.mov (.c (.slice none 0 0))),mv_ 5 54] [4,5])
  (.ret))
 N8
def NU:Ad := .ops [mv_ 103 6,mv_ 104 6,po_ 105 (.nilc (.t 104)),po_ 106 (.fieldA 0 0 (.t 105)),po_ 107 (.load false 1 (.t 106)),mv_ 108 13,po_ 109 (.slV 1 (.t 107) (some (.t 108)) none),po_ 110 (.nilc (.t 103)),po_ 111 (.fieldA 0 0 (.t 110)),⟨none,.s (.store 1 (.t 111) (.t 109)),none⟩] [0,6,8,9]
def N9:Ad := .seq (.ops [mv_ 100 10,po_ 101 (.bin 3 .and (.t 100) (ci_ 128)),po_ 102 (.bin 3 .eql (.t 101) (ci_ 0))] [0,6,8,9,13,102])
 (.cond (.t 102)
 NU
 (.skip))
def NY:Ad := .seq (.ops [mv_ 92 9,mv_ 93 11,mv_ 94 12,mv_ 95 12,mv_ 96 13,po_ 97 (.bin 3 .add (.t 95) (.t 96)),po_ 98 (.slV 1 (.t 93) (some (.t 94)) (some (.t 97))),so_ 99 (.app 1 1 5 (.t 92) (.t 98)),mv_ 9 99] [0,6,8,9,10,13])
 N9
def NQ:Ad := .seq (.seq (.ops [mv_ 71 6,po_ 72 (.nilc (.t 71)),po_ 73 (.fieldA 1 1 (.t 72)),po_ 74 (.load false 1 (.t 73)),mv_ 75 74,⟨some 76,.p (.mov (.t 13)),some ⟨75,false⟩⟩,⟨some 77,.p (.mov (.t 11)),some ⟨75,false⟩⟩,⟨some 78,.p (.lenV (.t 77)),some ⟨75,false⟩⟩,⟨some 79,.p (.mov (.t 12)),some ⟨75,false⟩⟩,⟨some 80,.p (.bin 3 .sub (.t 78) (.t 79)),some ⟨75,false⟩⟩,⟨some 81,.p (.bin 3 .gtr (.t 76) (.t 80)),some ⟨75,false⟩⟩,po_ 82 (.pick (.t 75) (.c (.bool true)) (.t 81)),mv_ 83 82,⟨some 84,.p (.mov (.t 9)),some ⟨83,false⟩⟩,⟨some 85,.p (.lenV (.t 84)),some ⟨83,false⟩⟩,⟨some 86,.p (.mov (.t 13)),some ⟨83,false⟩⟩,⟨some 87,.p (.bin 3 .add (.t 85) (.t 86)),some ⟨83,false⟩⟩,⟨some 88,.p (.mov (.t 8)),some ⟨83,false⟩⟩,⟨some 89,.p (.bin 3 .gtr (.t 87) (.t 88)),some ⟨83,false⟩⟩,po_ 90 (.pick (.t 83) (.c (.bool true)) (.t 89))] [0,6,8,9,10,11,12,13,90])
 (.cond (.t 90)
 (.seq (.ops [po_ 91 (.iface 34 (ci_ 30)),po_ 4 (.mov (.c (.slice none 0 0))),mv_ 5 91] [4,5])
  (.ret))
 (.skip)))
 NY
def NS:Ad := .seq (.block 2 (.seq (.ops [mv_ 52 10,po_ 53 (.bin 3 .eql (.t 52) (ci_ 0)),mv_ 51 53] [0,6,8,9,10,11,12,13,51])
 NV))
 NQ
def Mc:Ad := .seq (.ops [mv_ 46 6,po_ 47 (.nilc (.t 46)),po_ 48 (.fieldA 0 0 (.t 47)),po_ 49 (.load false 1 (.t 48)),mv_ 50 10,mv_ 11 49,po_ 12 (.mov (ci_ 0)),mv_ 13 50] [0,6,8,9,10,11,12,13])
 NS
def ML:Ad := .block 1 (.seq (.ops [mv_ 44 6,so_ 45 (.call 19 [.t 44]),mv_ 10 45] [0,6,8,9,10])
 Mc)
def LQ:Ad := .seq (.seq (.ops [mv_ 38 6,po_ 39 (.nilc (.t 38)),po_ 40 (.fieldA 0 0 (.t 39)),po_ 41 (.load false 1 (.t 40)),po_ 42 (.lenV (.t 41)),po_ 43 (.bin 3 .gtr (.t 42) (ci_ 0))] [0,6,8,9,43])
 (.cond (.t 43)
 (.skip)
 (.exit 0)))
 ML
def Lu:Ad := .seq (.seq (.ops [mv_ 112 9,po_ 113 (.lenV (.t 112)),mv_ 114 8,po_ 115 (.bin 3 .neq (.t 113) (.t 114))] [9,115])
 (.cond (.t 115)
 (.seq (.ops [po_ 116 (.iface 34 (ci_ 30)),po_ 4 (.mov (.c (.slice none 0 0))),mv_ 5 116] [4,5])
  (.ret))
 (.skip)))
 (.seq (.ops [mv_ 117 9,mv_ 4 117,po_ 5 (.mov (.c .nilIface))] [4,5])
 (.ret))
def LH:Ad := .seq (.block 0 (.own 9 1 (.loop [0,6,8,9] LQ)))
 Lu
def Lp:Ad := .seq (.ops [mv_ 36 8,so_ 37 (.mks 1 1 (.val (.int .u8 ((0:Nat):Int))) (ci_ 0) (.t 36)),mv_ 9 37] [0,6,8,9])
 LH
def LJ:Ad := .seq (.seq (.ops [mv_ 21 6,po_ 22 (.nilc (.t 21)),po_ 23 (.fieldA 1 1 (.t 22)),po_ 24 (.load false 1 (.t 23)),mv_ 25 24,⟨some 26,.p (.mov (.t 7)),some ⟨25,false⟩⟩,⟨some 27,.p (.mov (.t 0)),some ⟨25,false⟩⟩,⟨some 28,.p (.lenV (.t 27)),some ⟨25,false⟩⟩,⟨some 29,.p (.bin 3 .neq (.t 26) (.t 28)),some ⟨25,false⟩⟩,po_ 30 (.pick (.t 25) (.c (.bool true)) (.t 29)),mv_ 31 30,⟨some 32,.p (.mov (.t 8)),some ⟨31,false⟩⟩,⟨some 33,.p (.bin 3 .gtr (.t 32) (ci_ 100000)),some ⟨31,false⟩⟩,po_ 34 (.pick (.t 31) (.c (.bool true)) (.t 33))] [0,6,8,34])
 (.cond (.t 34)
 (.seq (.ops [po_ 35 (.iface 34 (ci_ 30)),po_ 4 (.mov (.c (.slice none 0 0))),mv_ 5 35] [4,5])
  (.ret))
 (.skip)))
 Lp
def MN:Ad := .seq (.ops [mv_ 17 6,so_ 18 (.call 18 [.t 17]),mv_ 19 6,so_ 20 (.call 18 [.t 19]),mv_ 7 18,mv_ 8 20] [0,6,7,8])
 LJ
def MJ:Ad := .seq (.ops [mv_ 14 1,⟨some 15,.p (.build [.val (.slice none 0 0),.val (.bool false)] [1,1] [⟨0,.t 14⟩]),none⟩,so_ 16 (.box (.t 15)),mv_ 6 16] [0,6])
 MN
def RQ:Ad := .seq (.ops [po_ 4 (.mov (.c (.slice none 0 0))),po_ 5 (.mov (.c .nilIface))] [0,1])
 MJ
def RD:List VR:=[.tmp 4,.tmp 5]
theorem Wi:Tryd.f8.body.bind (trC Tryd.prog Tryd.f8.ntmps)=some (er RQ):=by kernel_rfl
theorem Ws:trR Tryd.prog Tryd.f8.results.toList=some RD:=by kernel_rfl
def SH:=Ac NP.eq_1
def Sr:=Ac NZ.eq_1
def Ro:=Ac N8.eq_1
def RV:=Ac NV.eq_1
def RJ:=Ac NU.eq_1
def RZ:=Ac N9.eq_1
def SG:=Ac NY.eq_1
def Si:=Ac NQ.eq_1
def Sj:=Ac NS.eq_1
def QB:=Ac Mc.eq_1
def QE:=Ac ML.eq_1
def QX:=Ac LQ.eq_1
def Q5:=Ac Lu.eq_1
def Qs:=Ac LH.eq_1
def QP:=Ac Lp.eq_1
def QY:=Ac LJ.eq_1
def QD:=Ac MN.eq_1
def Q4:=Ac MJ.eq_1
def U1:=Ac RQ.eq_1
theorem UZ {K:TV→Prop} {e:Env} {H:List Ob}:res RD e H K=res [.tmp 4,.tmp 5] e H K:=Aa rfl
def Am:=(aI_ (aI_ (aI_ (aI_ (aI_ @SH @Sr) (aI_ @Ro @RV)) (aI_ (aI_ @RJ @RZ) (aI_ @SG @Si))) (aI_ (aI_ (aI_ @Sj @QB) (aI_ @QE @QX)) (aI_ (aI_ @Q5 @Qs) (aI_ @QP @QY)))) (aI_ (aI_ @QD @Q4) (aI_ @U1 @UZ)))
def Vk:=Sz 118 Tryd.func8 Wi Ws rfl
def NM:Ad := .seq (.seq (.ops [mv_ 13 5,po_ 14 (.nilc (.t 13)),po_ 15 (.fieldA 1 1 (.t 14)),po_ 16 (.load false 1 (.t 15))] [2,3,16])
 (.cond (.t 16)
 (.seq (.ops [po_ 17 (.iface 34 (ci_ 30)),po_ 2 (.mov (ci_ 0)),po_ 3 (.mov (ci_ 0)),mv_ 4 17] [2,3,4])
  (.ret))
 (.skip)))
 (.seq (.ops [mv_ 18 2,mv_ 19 3,mv_ 2 18,mv_ 3 19,po_ 4 (.mov (.c .nilIface))] [2,3,4])
 (.ret))
def Oa:Ad := .seq (.ops [mv_ 9 5,so_ 10 (.call 18 [.t 9]),mv_ 11 5,so_ 12 (.call 18 [.t 11]),mv_ 2 10,mv_ 3 12] [2,3,5])
 NM
def NW:Ad := .seq (.ops [mv_ 6 0,⟨some 7,.p (.build [.val (.slice none 0 0),.val (.bool false)] [1,1] [⟨0,.t 6⟩]),none⟩,so_ 8 (.box (.t 7)),mv_ 5 8] [5])
 Oa
def SI:Ad := .seq (.ops [po_ 2 (.mov (ci_ 0)),po_ 3 (.mov (ci_ 0)),po_ 4 (.mov (.c .nilIface))] [0])
 NW
def RY:List VR:=[.tmp 2,.tmp 3,.tmp 4]
theorem WA:Tryd.f10.body.bind (trC Tryd.prog Tryd.f10.ntmps)=some (er SI):=by kernel_rfl
theorem WL:trR Tryd.prog Tryd.f10.results.toList=some RY:=by kernel_rfl
def Rj:=Ac NM.eq_1
def Sv:=Ac Oa.eq_1
def Ry:=Ac NW.eq_1
def UX:=Ac SI.eq_1
theorem UL {K:TV→Prop} {e:Env} {H:List Ob}:res RY e H K=res [.tmp 2,.tmp 3,.tmp 4] e H K:=Aa rfl
def NG:=(aI_ (aI_ (aI_ @Rj @Sv) (aI_ @Ry @UX)) @UL)
def Vw:=Sz 20 Tryd.func10 WA WL rfl
end
section
open Go.RowKit
variable [A7]
theorem Uw:∀ (f w i n:Nat) (r:List UInt8) (bad:Bool),w<2 ^ f→nbG (f+1) w i n r bad=nbG f w i n r bad
 | 0,w,_,_,_,_,h=>by rw [show w=0 from by omega]; exact WZ
 | f+1,w,i,n,r,bad,h=>by
  have h2:w / 2<2 ^ f:=by rw [Nat.pow_succ] at h; omega
  rw [nbG]
  conv=>rhs; rw [nbG]
  rw [Uw f (w / 2) _ _ _ _ h2,Uw f (w / 2) _ _ _ _ h2]
end
section
open Go.RowKit Go.Extern.Stop Go.Stop Go.Extern
variable [A7]
theorem Za (t:Addr) (w:World):(ReflectliteValue.unpack (.iface 57 (.pointer (some t)))).run Tryd.prog w
  = .ok (.agg #[.pointer (some ⟨2,57,none⟩),.pointer (some ⟨w.heap.size,0,none⟩),.int .u64 150]) (w.alloc (.cells #[.pointer (some t)] 57)):=by kernel_rfl
theorem Aeu (a:Addr) (w:World):(ReflectliteValue.methodAny (ReflectliteValue.valueError "reflectlite.Value.Type" 0) (fun t _ _ _=>ReflectliteType.toType t) #[.agg #[.pointer (some ⟨2,57,none⟩),.pointer (some a),.int .u64 150]]).run Tryd.prog w
  = .ok (.iface 90 (.agg #[.pointer (some ⟨2,57,none⟩)])) w:=by kernel_rfl
theorem X3 (h:Value) (w:World):(Go.method 252 90 (.agg #[h]) "Kind").run Tryd.prog w = .ok (74,h) w:=by kernel_rfl
theorem AfN (w:World):((ReflectliteType.abiMethod fun t=>(fun a:Nat=>Value.int IntKind.u8 (a:Int)) <$> Rtype.kind t) #[.pointer (some ⟨2,57,none⟩)]).run Tryd.prog w = .ok (.int .u8 22) w:=by kernel_rfl
theorem Afs (w:World):((ReflectliteType.abiMethod fun t=>(fun a:Nat=>Value.int IntKind.u8 (a:Int)) <$> Rtype.kind t) #[.pointer (some ⟨2,34,none⟩)]).run Tryd.prog w = .ok (.int .u8 2) w:=by kernel_rfl
theorem rlm (z:Sem Value) (f:TypeId→Addr→Nat→Nat→Sem Value) (v:Value) :
  ReflectliteValue.method z f #[v]=(do match ← ReflectliteValue.parts v with | none=>z | some (t,a,fl)=>f t a fl (fl % 32)):=rfl
theorem XW (a:Addr) (w:World):(ReflectliteValue.parts (.agg #[.pointer (some ⟨2,57,none⟩),.pointer (some a),.int .u64 150])).run Tryd.prog w = .ok (some (57,a,150)) w:=by kernel_rfl
theorem AcF (a p:Addr) (W:World) (ha:W.cell? a=some (.pointer (some p))) :
  (ReflectliteValue.method (ReflectliteValue.valueError "reflectlite.Value.IsNil" 0) ReflectliteValue.isNil #[.agg #[.pointer (some ⟨2,57,none⟩),.pointer (some a),.int .u64 150]]).run Tryd.prog W = .ok (.bool false) W:=by
 rw [rlm]
 simp only [Sem.run_bind,XW,Result.andThen]
 simp [ReflectliteValue.isNil,loadVar,isAgg,underlying,Tryd.underlying57,ha,Result.andThen]
theorem Xn (h:Value) (w:World):(Go.method 252 90 (.agg #[h]) "Elem").run Tryd.prog w = .ok (84,.agg #[h]) w:=by kernel_rfl
theorem Rz (h:Value) (w:World):(Go.method 252 90 (.agg #[h]) "Implements").run Tryd.prog w = .ok (85,.agg #[h]) w:=by kernel_rfl
theorem PQ (h:Value) (w:World):(Go.method 252 90 (.agg #[h]) "AssignableTo").run Tryd.prog w = .ok (82,.agg #[h]) w:=by kernel_rfl
theorem Ae4 (w:World):(ReflectliteType.method ReflectliteType.elem #[.agg #[.pointer (some ⟨2,57,none⟩)]]).run Tryd.prog w = .ok (.iface 90 (.agg #[.pointer (some ⟨2,34,none⟩)])) w:=by kernel_rfl
theorem Vt (w:World):(ReflectliteType.relation "Implements" ReflectliteType.implements_ #[.agg #[.pointer (some ⟨2,34,none⟩)],.iface 90 (.agg #[.pointer (some ⟨2,27,none⟩)])]).run Tryd.prog w = .ok (.bool true) w:=by kernel_rfl
theorem Aal (v:Value) (w:World):(ReflectliteType.typeOf #[.iface 34 v]).run Tryd.prog w = .ok (.iface 90 (.agg #[.pointer (some ⟨2,34,none⟩)])) w:=by kernel_rfl
theorem Vp (w:World):(ReflectliteType.relation "AssignableTo" ReflectliteType.assignableTo #[.agg #[.pointer (some ⟨2,34,none⟩)],.iface 90 (.agg #[.pointer (some ⟨2,34,none⟩)])]).run Tryd.prog w = .ok (.bool true) w:=by kernel_rfl
theorem Yy (e:Int) (w:World):(ReflectliteValue.unpack (.iface 34 (.int .i64 e))).run Tryd.prog w
  = .ok (.agg #[.pointer (some ⟨2,34,none⟩),.pointer (some ⟨w.heap.size,0,none⟩),.int .u64 130]) (w.alloc (.cells #[.int .i64 e] 34)):=by kernel_rfl
theorem AaY (w:World):(Rtype.elem? 57).run Tryd.prog w = .ok (some 34) w:=by kernel_rfl
theorem Ak4 (p:Addr) (w:World):(ReflectliteValue.mk 34 p ReflectliteValue.flagAddr).run Tryd.prog w = .ok (.agg #[.pointer (some ⟨2,34,none⟩),.pointer (some p),.int .u64 386]) w:=by kernel_rfl
theorem AcZ (a p:Addr) (W:World) (ha:W.cell? a=some (.pointer (some p))) :
  (ReflectliteValue.method (ReflectliteValue.valueError "reflectlite.Value.Elem" 0) ReflectliteValue.elem #[.agg #[.pointer (some ⟨2,57,none⟩),.pointer (some a),.int .u64 150]]).run Tryd.prog W
   = .ok (.agg #[.pointer (some ⟨2,34,none⟩),.pointer (some p),.int .u64 386]) W:=by
 rw [rlm]
 simp only [Sem.run_bind,XW,Result.andThen]
 simp [ReflectliteValue.elem,loadVar,isAgg,underlying,Tryd.underlying57,ha,Result.andThen,AaY,Ak4]
theorem rls (v x:Value):ReflectliteValue.set #[v,x]=(do
  let (some (dst,a,fl),some (src,b,_)):=(←ReflectliteValue.parts v,←ReflectliteValue.parts x)
   | unsupported (.noEntry "extern/(internal/reflectlite.Value).Set.zeroValue")
  if fl / ReflectliteValue.flagAddr % 2 == 0 then unsupported (.noEntry "extern/(internal/reflectlite.Value).Set.unaddressable")
  let val ← loadVar src b
  if ← Rtype.directlyAssignable dst src then storeVar dst a val
  else if ← Rtype.implements dst src then
   if (←Rtype.kind src) == 20 then
    match val with
    | .nilIface=>unsupported (.noEntry "extern/reflectlite: a nil value of one interface type handed on as a value of another")
    | _=>storeVar dst a val
   else storeVar dst a (.iface src val)
  else panicString ("reflectlite.Set: value of type " ++ (←Rtype.spelt src) ++ " is not assignable to type " ++ (←Rtype.spelt dst))
  pure (.tuple #[])):=rfl
theorem Abd (a:Addr) (w:World):(ReflectliteValue.parts (.agg #[.pointer (some ⟨2,34,none⟩),.pointer (some a),.int .u64 386])).run Tryd.prog w = .ok (some (34,a,386)) w:=by kernel_rfl
theorem Adu (a:Addr) (w:World):(ReflectliteValue.parts (.agg #[.pointer (some ⟨2,34,none⟩),.pointer (some a),.int .u64 130])).run Tryd.prog w = .ok (some (34,a,130)) w:=by kernel_rfl
theorem Aav (w:World):(Rtype.directlyAssignable 34 34).run Tryd.prog w = .ok true w:=by kernel_rfl
theorem Ahr (ta b:Addr) (e:Int) (old:Value) (W:World) (hb:W.cell? b=some (.int .i64 e)) (ht:W.cell? ta=some old) (hf:W.frozen? ta=false) :
  (ReflectliteValue.set #[.agg #[.pointer (some ⟨2,34,none⟩),.pointer (some ta),.int .u64 386],.agg #[.pointer (some ⟨2,34,none⟩),.pointer (some b),.int .u64 130]]).run Tryd.prog W
   = .ok (.tuple #[]) (W.setCell ta (.int .i64 e)):=by
 rw [rls]
 simp only [Sem.run_bind,Abd,Adu,Result.andThen]
 simp [ReflectliteValue.flagAddr,loadVar,isAgg,underlying,Tryd.underlying34,hb,Result.andThen,Aav,storeVar,Value.cells,storeCells,Addr.add]
 rw [run_store Tryd.prog W ta _ _ (by rfl)]
 simp [ht,hf]
set_option maxHeartbeats 4000000 in
theorem Aj8 (e:Int) (t:Addr) (old:Value) (w:World) (hg:w.cell? ⟨0,0,none⟩=some (.iface 90 (.agg #[.pointer (some ⟨2,27,none⟩)]))) (ht0:w.cell? t=some old) (hf0:w.frozen? t=false) :
  Calls Tryd.prog 23 #[.iface 34 (.int .i64 e),.iface 57 (.pointer (some t))] w fun ev w'=>ev = .returned (.bool true)∧w'=((((w.alloc (.cells #[.pointer (some t)] 57)).alloc (.cells #[.pointer (some ⟨2,57,none⟩),.pointer (some ⟨w.heap.size,0,none⟩),.int .u64 150] 76)).alloc (.cells #[.pointer (some ⟨2,57,none⟩),.pointer (some ⟨w.heap.size,0,none⟩),.int .u64 150] 76)).alloc (.cells #[.int .i64 e] 34)).setCell t (.int .i64 e):=by
 have h6:=@run_callFunc_extern Tryd.prog 31 _ (fun args=>ReflectliteValue.unpack (args.getD 0 (.tuple #[]))) Tryd.func31 (by kernel_rfl) (by kernel_rfl) (by kernel_rfl) (by kernel_rfl)
 have h7:=@run_callFunc_extern Tryd.prog 32 _ (ReflectliteValue.methodAny (ReflectliteValue.valueError "reflectlite.Value.Type" 0) (fun t _ _ _=>ReflectliteType.toType t)) Tryd.func32 (by kernel_rfl) (by kernel_rfl) (by kernel_rfl) (by kernel_rfl)
 have h8:=@run_callFunc_extern Tryd.prog 33 _ (ReflectliteValue.method (ReflectliteValue.valueError "reflectlite.Value.IsNil" 0) ReflectliteValue.isNil) Tryd.func33 (by kernel_rfl) (by kernel_rfl) (by kernel_rfl) (by kernel_rfl)
 have h27:=@run_callFunc_extern Tryd.prog 74 _ (ReflectliteType.abiMethod fun t=>do pure (.int .u8 (←Rtype.kind t))) Tryd.func74 (by kernel_rfl) (by kernel_rfl) (by kernel_rfl) (by kernel_rfl)
 have h37:=@run_callFunc_extern Tryd.prog 84 _ (ReflectliteType.method ReflectliteType.elem) Tryd.func84 (by kernel_rfl) (by kernel_rfl) (by kernel_rfl) (by kernel_rfl)
 have h38:=@run_callFunc_extern Tryd.prog 85 _ (ReflectliteType.relation "Implements" ReflectliteType.implements_) Tryd.func85 (by kernel_rfl) (by kernel_rfl) (by kernel_rfl) (by kernel_rfl)
 have h10:=@run_callFunc_extern Tryd.prog 39 _ ReflectliteType.typeOf Tryd.func39 (by kernel_rfl) (by kernel_rfl) (by kernel_rfl) (by kernel_rfl)
 have h35:=@run_callFunc_extern Tryd.prog 82 _ (ReflectliteType.relation "AssignableTo" ReflectliteType.assignableTo) Tryd.func82 (by kernel_rfl) (by kernel_rfl) (by kernel_rfl) (by kernel_rfl)
 have h11:=@run_callFunc_extern Tryd.prog 40 _ (ReflectliteValue.method (ReflectliteValue.valueError "reflectlite.Value.Elem" 0) ReflectliteValue.elem) Tryd.func40 (by kernel_rfl) (by kernel_rfl) (by kernel_rfl) (by kernel_rfl)
 have h12:=@run_callFunc_extern Tryd.prog 41 _ ReflectliteValue.set Tryd.func41 (by kernel_rfl) (by kernel_rfl) (by kernel_rfl) (by kernel_rfl)
 have tO:=Aal
 have mA:=PQ
 have a25:=Vp
 have v25:=Yy
 have f6:=Za
 have f7:=Aeu
 have mK:=X3
 have mE:=Xn
 have mI:=Rz
 have k27:=AfN
 have k25:=Afs
 have e27:=Ae4
 have i25:=Vt
 have n8:=AcF ⟨w.heap.size,0,none⟩ t ((w.alloc (.cells #[.pointer (some t)] 57)).alloc (.cells #[.pointer (some ⟨2,57,none⟩),.pointer (some ⟨w.heap.size,0,none⟩),.int .u64 150] 76)) (by simp)
 have hlt:0<w.heap.size:=by
  rcases Nat.lt_or_ge 0 w.heap.size with h | h
  ·exact h
  ·simp [World.cell?,Array.getElem?_eq_none h] at hg
 have hg2:((w.alloc (.cells #[.pointer (some t)] 57)).alloc (.cells #[.pointer (some ⟨2,57,none⟩),.pointer (some ⟨w.heap.size,0,none⟩),.int .u64 150] 76)).cell? ⟨0,0,none⟩=some (.iface 90 (.agg #[.pointer (some ⟨2,27,none⟩)])):=by
  rw [World.cell?_alloc_lt _ _ ⟨0,0,none⟩ (Nat.lt_of_lt_of_le hlt (by simp)),World.cell?_alloc_lt _ _ ⟨0,0,none⟩ hlt]; exact hg
 have htl:t.block<w.heap.size:=by
  rcases Nat.lt_or_ge t.block w.heap.size with h | h
  ·exact h
  ·simp [World.cell?,Array.getElem?_eq_none h] at ht0
 have el:=AcZ ⟨w.heap.size,0,none⟩ t (((w.alloc (.cells #[.pointer (some t)] 57)).alloc (.cells #[.pointer (some ⟨2,57,none⟩),.pointer (some ⟨w.heap.size,0,none⟩),.int .u64 150] 76)).alloc (.cells #[.pointer (some ⟨2,57,none⟩),.pointer (some ⟨w.heap.size,0,none⟩),.int .u64 150] 76)) (by rw [World.cell?_alloc_lt _ _ ⟨w.heap.size,0,none⟩ (by simp; omega)]; simp)
 have st:=Ahr t ⟨w.heap.size+1+1+1,0,none⟩ e old ((((w.alloc (.cells #[.pointer (some t)] 57)).alloc (.cells #[.pointer (some ⟨2,57,none⟩),.pointer (some ⟨w.heap.size,0,none⟩),.int .u64 150] 76)).alloc (.cells #[.pointer (some ⟨2,57,none⟩),.pointer (some ⟨w.heap.size,0,none⟩),.int .u64 150] 76)).alloc (.cells #[.int .i64 e] 34))
  (by rw [World.cell?_alloc_at _ _ _ _ (by simp)]; rfl)
  (by rw [World.cell?_alloc_lt _ _ t (by simp; omega),World.cell?_alloc_lt _ _ t (by simp; omega),World.cell?_alloc_lt _ _ t (by simp; omega),World.cell?_alloc_lt _ _ t htl]; exact ht0)
  (by rw [World.frozen?_alloc_old _ _ t (by simp; omega),World.frozen?_alloc_old _ _ t (by simp; omega),World.frozen?_alloc_old _ _ t (by simp; omega),World.frozen?_alloc_old _ _ t (Nat.ne_of_lt htl)]; exact hf0)
 go_enter Tryd.func23,Tryd.ntmps23
 go_wp2
 refine wp_loop_rounds 1 ?_
 rw [rounds_succ]
 go_wp2
 go_ret
 exact ⟨rfl,rfl⟩
end
section
open Go.RowKit
variable [A7] [DZ]
theorem MS.refl {F:Nat→Prop} {w:World} (h:∀ b,F b→b<w.heap.size):MS F w F w:=⟨rfl,rfl,rfl,Nat.le_refl _,fun _ _=>rfl,fun _ h=>h,fun _ _ h=>h,h⟩
theorem MS.alloc {F F':Nat→Prop} {w w':World} (h:MS F w F' w') (o:Obj):MS F w F' (w'.alloc o) :=
 ⟨h.os,h.tape,h.output,by have:=h.size; simp; omega,fun b hb=>(CU w' o (Nat.lt_of_lt_of_le hb h.size)).trans (h.same b hb),h.keepF,h.oldF,fun b hb=>by have:=h.ltF b hb; simp; omega⟩
abbrev eno (n:Int):TV := .ifc 34 (i64 n)
theorem Ad4 {n:Int} {id ver:Nat} {p:List (Nat×Nat)} {x x':TV} {H:List Ob} {K:TV→List Ob→Prop} (ho:H[id]?=some (.obj ver x)) (hs2:QO p x (i64 n)=some x') (hk:K (tb true) (H.set id (.obj ver x'))) :
  Au Tryd.prog 23 [eno n,.ifc 57 (.op id ver p)] H K:=by
 intro β F w vs hs hv
 obtain ⟨u,us,rfl,h1,h2⟩:=AY.cons.1 hv
 obtain ⟨u2,us2,rfl,h3,h4⟩:=AY.cons.1 h2
 rw [AY.nil] at h4; subst h4
 -- the two arguments
 have e1:u = .iface 34 (.int .i64 n):=by
  rcases h1 with h | h | ⟨xs0,h,rfl⟩
  ·cases h
  ·cases h
  ·rw [Ag] at h
   obtain ⟨v,rfl,vs,h,rfl⟩:=h
   rw [Ag] at h
   obtain ⟨rfl,_⟩:=h
   rfl
 obtain ⟨b,o,hbo,rfl⟩:∃ b o,β id ver=some (b,o)∧u2 = .iface 57 (.pointer (some ⟨b,o+C9 p,none⟩)):=by
  rcases h3 with h | h | ⟨xs0,h,rfl⟩
  ·cases h
  ·cases h
  ·rw [Ag] at h
   obtain ⟨v,rfl,vs,h,rfl⟩:=h
   rw [Ag] at h
   obtain ⟨_,b,o,hb,rfl⟩:=h
   exact ⟨b,o,hb,rfl⟩
 subst e1
 have hgl:=hs.glob.at DZ.k
 have hg:w.cell? ⟨0,0,none⟩=some (.iface 90 (.agg #[.pointer (some ⟨2,27,none⟩)])):=hgl 0 _ rfl
 have hrow:∀ c w,Ag c w (i64 n) [.int .i64 n]:=fun c w=>by rw [Ag]; exact ⟨rfl,rfl⟩
 obtain ⟨_,_,ht⟩:=hs.store ho hbo hs2 (hrow _ _)
 obtain ⟨t1,t2⟩:=ht 0 (by simp)
 obtain ⟨old,hold⟩:=Option.isSome_iff_exists.1 t1
 refine (Aj8 n ⟨b,o+C9 p,none⟩ old w hg hold t2).mono ?_
 rintro e w' ⟨rfl,rfl⟩
 have hst:=((((MS.refl (F:=F) hs.lt).alloc (.cells #[.pointer (some ⟨b,o+C9 p,none⟩)] 57)).alloc (.cells #[.pointer (some ⟨2,57,none⟩),.pointer (some ⟨w.heap.size,0,none⟩),.int .u64 150] 76)).alloc (.cells #[.pointer (some ⟨2,57,none⟩),.pointer (some ⟨w.heap.size,0,none⟩),.int .u64 150] 76)).alloc (.cells #[.int .i64 n] 34)
 obtain ⟨k1,k2,_⟩:=(hst.sim hs).store ho hbo hs2 (hrow _ _)
 exact ⟨_,tb true,β,_,F,rfl,hk,k1,hst.later.trans k2,Rep.of_val⟩
theorem Aps {n:Int}:NF Tryd.prog 12 [eno n] (fun x=>x=i64 n):=by
 refine Au.toPure (Ie Tryd.func12 VL VW (by simp [Tryd.f12]) ?_)
 simp (disch:=omega) only [TE,Ti,↓IE,↓OV,↓IC,↓EF,↓IG,↓P5,↓Bc,↓Dl,↓VN,↓IJ,↓Po,↓AhC,↓Alr,↓AcK,↓XY,↓AO,↓BP,Xu,AcI,UA,Uo,Hr,AB,Az,EM,DN,ET,BP,AO,Ko,AaX,eq_self,Dn,↓reduceIte,Nat.reduceEqDiff,List.nil_append,List.length_nil,List.map_cons,List.map_nil,true_and,Nat.zero_add,UK,VK,Bool.false_xor,Bool.false_eq_true,reduceCtorEq,and_self,↓all_cons,↓all_nil,eq_self]
 refine Ad4 (x:=i64 0) (x':=i64 n) rfl (by rw [Ht]; rfl) ?_
 simp (disch:=omega) only [Gl,Cm,Ko,eq_self,↓reduceIte,List.getElem?_cons_zero,List.set_cons_zero,and_self,eq_self]
theorem AnT:NF Tryd.prog 12 [.val .nilIface] (fun x=>x=i64 0):=by
 refine Au.toPure (Ie Tryd.func12 VL VW (by simp [Tryd.f12]) ?_)
 simp (disch:=omega) only [TE,Ti,↓IE,↓IC,↓EF,↓IG,↓P5,↓Bc,↓Dl,↓VN,↓IJ,↓Alr,↓AcK,↓AO,↓BP,UA,Uo,AB,Az,EM,DN,BP,AO,Ko,AaX,eq_self,Dn,↓reduceIte,Nat.reduceEqDiff,List.nil_append,List.length_nil,Nat.zero_add,UK,Bool.false_xor,reduceCtorEq,eq_self]
end
section
open Go.RowKit
variable [A7]
theorem YR:∀ (f i n:Nat) (r:List UInt8),(szG f i n r true).2.2=true
 | 0,_,_,_=>rfl
 | f+1,i,n,r=>by
  rw [szG]
  have hb:(rdB r true).2.2=true:=by cases r<;>rfl
  rw [hb]
  split
  ·rfl
  ·exact YR f _ _ _
abbrev Apo:TV := .val (.slice none 0 0)
abbrev Apl:TV := .val .nilIface
def Adz (d:List UInt8) (x:TV):Prop:=x=match szs d with
 | none => .tup [i64 (0:Nat),i64 (0:Nat),eno (30:Nat)]
 | some (n,m,_) => .tup [i64 n,i64 m,Apl]
theorem AoY (d:List UInt8) (hl:d.length≤1000000):LK Tryd.prog 10 [slB d] (Adz d):=by
 refine Au.toFreshV (Vw (by simp) ?_)
 simp -dsimp (disch:=first | assumption | omega) only [↓Ak,Ae,Ai,Aj,eq_self,↓reduceIte,reduceCtorEq,↓NG]
 refine AeS hl rfl ?_
 have h1:=WN 5 0 0 d false
 rcases hg:szG 5 0 0 d false with ⟨n,r,bad⟩
 rw [hg] at h1
 simp -dsimp (disch:=first | assumption | omega) only [↓Ak,Ae,Ai,Aj,eq_self,Nat.reduceEqDiff,↓reduceIte]
 refine AeS (by simpa using Nat.le_trans h1 hl) rfl ?_
 cases bad with
 | true =>
  have hb:=YR 5 0 0 r
  simp -dsimp (disch:=first | assumption | omega) only [↓Ak,Ae,Ai,Aj,eq_self,Nat.reduceEqDiff,↓reduceIte,Nat.reduceAdd,↓NG,hb]
  simp [Adz,szs,hg]
 | false =>
  rcases hg2:szG 5 0 0 r false with ⟨m,r2,bad2⟩
  cases bad2<;>simp -dsimp (disch:=first | assumption | omega) only [↓Ak,Ae,Ai,Aj,eq_self,Nat.reduceEqDiff,↓reduceIte,Nat.reduceAdd,↓NG]<;>simp [Adz,szs,hg,hg2]
def PV (base:List UInt8) (m:Nat) (out:List UInt8) (b:UInt8) (r:List UInt8):Option (List UInt8×List UInt8) :=
 if b.toNat=0 then none else
 if b.toNat<128 then (if b.toNat≤r.length∧out.length+b.toNat≤m then some (out++r.take b.toNat,r.drop b.toNat) else none) else
 match nbG 4 (b.toNat % 16) 0 0 r false with
 | (at_,r1,bad1)=>match nbG 4 (b.toNat / 16 % 8) 0 0 r1 bad1 with
  | (n,r2,bad2)=>if bad2=false∧at_+(if n=0 then 65536 else n)≤base.length∧out.length+(if n=0 then 65536 else n)≤m then
    some (out++(base.drop at_).take (if n=0 then 65536 else n),r2) else none
def Yt (base:List UInt8) (m:Nat):Nat→List UInt8→List UInt8→Option (List UInt8)
 | _,out,[]=>if out.length=m then some out else none
 | 0,_,_::_=>none
 | f+1,out,b::r=>match PV base m out b r with
  | none=>none
  | some (out,r)=>Yt base m f out r
def Oc (base d:List UInt8):Option (List UInt8):=match szs d with
 | none=>none
 | some (n,m,r)=>if n=base.length∧m≤100000 then Yt base m r.length [] r else none
theorem Agd {r:List UInt8} {bad:Bool}:(rdB r bad).2.1.length≤r.length:=by cases r<;>simp [rdB]
theorem Tu:∀ (f w i n:Nat) (r:List UInt8) (bad:Bool),(nbG f w i n r bad).2.1.length≤r.length
 | 0,_,_,_,_,_=>Nat.le_refl _
 | f+1,w,i,n,r,bad=>by
  rw [nbG]; split
  ·exact Nat.le_trans (Tu f _ _ _ _ _) Agd
  ·exact Tu f _ _ _ _ _
theorem Z7:∀ (f w i n:Nat) (r:List UInt8) (bad:Bool),n<2 ^ (8*i)→(nbG f w i n r bad).1<2 ^ (8*(i+f))
 | 0,_,_,_,_,_,h=>h
 | f+1,w,i,n,r,bad,h=>by
  have hp:2 ^ (8*(i+1))=256*2 ^ (8*i):=by rw [show 8*(i+1)=8+8*i from by omega,Nat.pow_add]
  have hle:2 ^ (8*i)≤2 ^ (8*(i+1)):=Nat.pow_le_pow_right (by omega) (by omega)
  rw [nbG,show i+(f+1)=i+1+f from by omega]
  split
  ·refine Z7 f _ _ _ _ _ ?_
   have hb:=Ab5 r bad
   have hm:(rdB r bad).1*2 ^ (8*i)≤255*2 ^ (8*i):=Nat.mul_le_mul_right _ (by omega)
   exact Nat.or_lt_two_pow (by omega) (by omega)
  ·exact Z7 f _ _ _ _ _ (by omega)
theorem Acr {base:List UInt8} {m:Nat} {out:List UInt8} {b:UInt8} {r o2 r2:List UInt8} (h:PV base m out b r=some (o2,r2)):r2.length≤r.length∧o2.length≤m:=by
 unfold PV at h
 split at h
 ·cases h
 ·split at h
  ·split at h
   ·simp only [Option.some.injEq,Prod.mk.injEq] at h; obtain ⟨rfl,rfl⟩:=h; simp; omega
   ·cases h
  ·have k1:=Tu 4 (b.toNat % 16) 0 0 r false
   rcases g1:nbG 4 (b.toNat % 16) 0 0 r false with ⟨a,r1,b1⟩
   have k2:=Tu 4 (b.toNat / 16 % 8) 0 0 r1 b1
   rcases g2:nbG 4 (b.toNat / 16 % 8) 0 0 r1 b1 with ⟨n,r2',b2⟩
   rw [g1] at h k1; rw [g2] at k2
   have h':(if b2=false∧a+(if n=0 then 65536 else n)≤base.length∧out.length+(if n=0 then 65536 else n)≤m then some (out++(base.drop a).take (if n=0 then 65536 else n),r2') else none)=some (o2,r2):=by
    have e:(match nbG 4 (b.toNat / 16 % 8) 0 0 r1 b1 with
     | (n,r2,bad2)=>if bad2=false∧a+(if n=0 then 65536 else n)≤base.length∧out.length+(if n=0 then 65536 else n)≤m then some (out++(base.drop a).take (if n=0 then 65536 else n),r2) else none)=some (o2,r2):=h
    rw [g2] at e; exact e
   by_cases hc:b2=false∧a+(if n=0 then 65536 else n)≤base.length∧out.length+(if n=0 then 65536 else n)≤m
   ·rw [if_pos hc] at h'
    simp only [Option.some.injEq,Prod.mk.injEq] at h'; obtain ⟨rfl,rfl⟩:=h'
    simp only at k1 k2
    exact ⟨by omega,by simp; omega⟩
   ·rw [if_neg hc] at h'; cases h'
theorem Lh {base:List UInt8} {m:Nat}:∀ (f g:Nat) (out r:List UInt8),r.length≤f→r.length≤g→Yt base m f out r=Yt base m g out r
 | f,g,out,[],_,_=>by cases f<;>cases g<;>simp [Yt]
 | 0,_,_,_::_,h,_=>by simp at h
 | _,0,_,_::_,_,h=>by simp at h
 | f+1,g+1,out,b::r,h1,h2=>by
  rw [Yt,Yt]
  cases hs:PV base m out b r with
  | none=>rfl
  | some x =>
   obtain ⟨o2,r2⟩:=x
   have:=(Acr hs).1
   simp at h1 h2
   exact Lh f g o2 r2 (by omega) (by omega)
def Io (base d:List UInt8) (x:TV):Prop:=x=match Oc base d with
 | none => .tup [Apo,eno (30:Nat)]
 | some out => .tup [slB out,Apl]
set_option maxRecDepth 100000 in
theorem Anc:∀ b:Fin 256,(b.val &&& 128=if b.val<128 then 0 else 128):=by decide
theorem Apn {b:Nat} (h:b<256):b &&& 128=if b<128 then 0 else 128:=Anc ⟨b,h⟩
theorem b15:∀ b:Nat,b &&& 15=b % 16:=fun b=>by have:=Nat.and_two_pow_sub_one_eq_mod b 4; simpa using this
theorem b7:∀ b:Nat,b &&& 7=b % 8:=fun b=>by have:=Nat.and_two_pow_sub_one_eq_mod b 3; simpa using this
theorem AfQ (base d:List UInt8) (hl:d.length≤1000000) (hb:base.length≤1000000):LK Tryd.prog 8 [slB base,slB d] (Io base d):=by
 refine Au.toFreshV (Vk (by simp) ?_)
 simp -dsimp (disch:=first | assumption | omega) only [↓Ak,Ae,Ai,Aj,eq_self,Nat.reduceEqDiff,↓reduceIte,Nat.reduceAdd,reduceCtorEq,↓Am]
 refine AeS hl rfl ?_
 have h1:=WN 5 0 0 d false
 rcases hg:szG 5 0 0 d false with ⟨n,r,bad⟩
 rw [hg] at h1
 simp -dsimp (disch:=first | assumption | omega) only [↓Ak,Ae,Ai,Aj,eq_self,Nat.reduceEqDiff,↓reduceIte,reduceCtorEq]
 refine AeS (by simpa using Nat.le_trans h1 hl) rfl ?_
 cases bad with
 | true =>
  have hb:=YR 5 0 0 r
  simp -dsimp (disch:=first | assumption | omega) only [↓Ak,Ae,Ai,Aj,eq_self,Nat.reduceEqDiff,↓reduceIte,Nat.reduceAdd,reduceCtorEq,↓Am,hb]
  simp [Io,Oc,szs,hg]
 | false =>
  have h2:=WN 5 0 0 r false
  rcases hg2:szG 5 0 0 r false with ⟨m,r2,bad2⟩
  rw [hg2] at h2
  cases bad2 with
  | true =>
   simp -dsimp (disch:=first | assumption | omega) only [↓Ak,Ae,Ai,Aj,eq_self,Nat.reduceEqDiff,↓reduceIte,Nat.reduceAdd,reduceCtorEq,↓Am]
   simp [Io,Oc,szs,hg,hg2]
  | false =>
   simp only at h1 h2
   simp -dsimp (disch:=first | assumption | omega) only [↓Ak,Ae,Ai,Aj,eq_self,Nat.reduceEqDiff,↓reduceIte,Nat.reduceAdd,reduceCtorEq,↓Am]
   refine Ee (fun hn => ?_) (fun hn => ?_)
   case refine_2 =>
    simp -dsimp (disch:=first | assumption | omega) only [↓Ak,Ae,Ai,Aj,eq_self,Nat.reduceEqDiff,↓reduceIte,reduceCtorEq,↓Am]
    simp [Io,Oc,szs,hg,hg2,hn]
   simp -dsimp (disch:=first | assumption | omega) only [↓Ak,Ae,Ai,Aj,eq_self,Nat.reduceEqDiff,↓reduceIte,reduceCtorEq]
   refine Ee (fun hm => ?_) (fun hm => ?_)
   case refine_1 =>
    simp -dsimp (disch:=first | assumption | omega) only [↓Ak,Ae,Ai,Aj,eq_self,Nat.reduceEqDiff,↓reduceIte,↓Am]
    simp [Io,Oc,szs,hg,hg2,hn,show ¬ m≤100000 from by omega]
   simp -dsimp (disch:=first | assumption | omega) only [↓Ak,Ae,Ai,Aj,eq_self,Nat.reduceEqDiff,↓reduceIte,reduceCtorEq,↓Am]
   have hfin:Oc base d=Yt base m r2.length [] r2:=by simp [Oc,szs,hg,hg2,hn]; omega
   refine KH (fun k e H=>∃ (ver N cp:Nat) (cs:List TV) (out r':List UInt8),k=r'.length∧r'.length≤1000000∧out.length≤m∧cs.take out.length=out.map by8∧out.length≤cs.length∧Yt base m r'.length out r'=Oc base d ∧
    e=[(0,slB base),(6,.op 0 0 []),(8,i64 m),(9,.os 1 1 ver [] 0 out.length cp)]∧H=[.obj 0 (rdr r' false),.obj ver (.arr N 1 cs)]) r2.length ?_ ?_
   ·exact ⟨0,m,m,_,[],r2,rfl,by omega,by simp,by simp,by simp,hfin.symm,rfl,rfl⟩
   ·rintro k e H ⟨ver,N,cp,cs,out,r',rfl,hr',hout,hcs,hcl,hrun,rfl,rfl⟩
    cases r' with
    | nil =>
     have hd:Oc base d=if out.length=m then some out else none:=by rw [←hrun]; rfl
     simp -dsimp (disch:=first | assumption | omega) only [↓Ak,Ae,Ai,Aj,eq_self,Nat.reduceLT,Nat.reduceEqDiff,↓reduceIte,reduceCtorEq,↓Am]
     refine Ee (fun hm => ?_) (fun hm => ?_)
     ·simp -dsimp (disch:=first | assumption | omega) only [↓Ak,Ae,Ai,Aj,eq_self,Nat.reduceEqDiff,↓reduceIte,↓Am,hcs]
      simp [Io,hd,hm]
     ·simp -dsimp (disch:=first | assumption | omega) only [↓Ak,Ae,Ai,Aj,eq_self,Nat.reduceEqDiff,↓reduceIte,↓Am]
      simp [Io,hd,hm]
    | cons b r' =>
     have hb:=b.toNat_lt
     simp only [List.length_cons] at hr'
     rw [List.length_cons,Yt] at hrun
     have hd:PV base m out b r'=none→Oc base d=none:=fun h=>by rw [←hrun,h]
     simp -dsimp (disch:=first | assumption | omega) only [↓Ak,Ae,Ai,Aj,eq_self,Nat.reduceEqDiff,↓reduceIte,reduceCtorEq,↓Am]
     refine Ahw (by simp; omega) rfl ?_
     have b1:=Apn (b:=b.toNat) (by omega)
     simp only [rdB]
     simp -dsimp (disch:=first | assumption | omega) only [↓Ak,Ae,Ai,Aj,eq_self,Nat.reduceEqDiff,↓reduceIte,reduceCtorEq,↓Am]
     refine Ee (fun h0 => ?_) (fun h0 => ?_)
     ·simp -dsimp (disch:=first | assumption | omega) only [↓Ak,Ae,Ai,Aj,eq_self,Nat.reduceEqDiff,↓reduceIte,↓Am]
      simp [Io,hd (by simp [PV,h0])]
     by_cases h128:b.toNat<128
     ·rw [if_pos h128] at b1
      simp -dsimp (disch:=first | assumption | omega) only [↓Ak,Ae,Ai,Aj,eq_self,Nat.reduceLT,Nat.reduceEqDiff,↓reduceIte,Nat.reduceAdd,reduceCtorEq,↓Am,b1]
      refine Ee (fun hr => ?_) (fun hr => ?_)
      ·simp -dsimp (disch:=first | assumption | omega) only [↓Ak,Ae,Ai,Aj,eq_self,Nat.reduceEqDiff,↓reduceIte,reduceCtorEq,↓Am]
       simp [Io,hd (by rw [PV,if_neg h0,if_pos h128,if_neg (by omega)])]
      ·simp -dsimp (disch:=first | assumption | omega) only [↓Ak,Ae,Ai,Aj,eq_self,Nat.reduceEqDiff,↓reduceIte,reduceCtorEq]
       refine Ee (fun hm2 => ?_) (fun hm2 => ?_)
       ·simp -dsimp (disch:=first | assumption | omega) only [↓Ak,Ae,Ai,Aj,eq_self,Nat.reduceEqDiff,↓reduceIte,↓Am]
        simp [Io,hd (by rw [PV,if_neg h0,if_pos h128,if_neg (by omega)])]
       ·have hs:PV base m out b r'=some (out++r'.take b.toNat,r'.drop b.toNat):=by rw [PV,if_neg h0,if_pos h128,if_pos (by omega)]
        rw [hs] at hrun
        simp -dsimp (disch:=first | assumption | omega) only [↓Ak,Ae,Ai,Aj,eq_self,Nat.reduceEqDiff,↓reduceIte,Nat.reduceAdd,reduceCtorEq,↓Am,b1]
        have hlen:(out++r'.take b.toNat).length=out.length+b.toNat:=by simp; omega
        refine Ba (r'.length - b.toNat) (by omega) (by simp) ⟨ver+1,out.length+b.toNat,out.length+b.toNat,(out++r'.take b.toNat).map by8,out++r'.take b.toNat,r'.drop b.toNat,by simp,by simp; omega,by omega,by rw [List.take_of_length_le (by simp)],by simp,?_,?_,?_⟩
        ·rw [←hrun]; exact Lh _ _ _ _ (by simp) (by simp)
        ·rw [hlen]; rfl
        ·rw [List.map_append,←hcs]
     ·rw [if_neg h128] at b1
      have e15:=b15 b.toNat
      simp -dsimp (disch:=first | assumption | omega) only [↓Ak,Ae,Ai,Aj,eq_self,Nat.reduceLT,Nat.reduceEqDiff,↓reduceIte,reduceCtorEq,↓Am,b1,e15]
      refine Apb (by omega) (by omega) rfl ?_
      have k1:=Tu 4 (b.toNat % 16) 0 0 r' false
      have k3:=Z7 4 (b.toNat % 16) 0 0 r' false (by omega)
      rcases g1:nbG 4 (b.toNat % 16) 0 0 r' false with ⟨a,r1,bad1⟩
      rw [g1] at k1 k3
      simp only at k1 k3
      have e7:=b7 (b.toNat / 16)
      simp -dsimp (disch:=first | assumption | omega) only [↓Ak,Ae,Ai,Aj,eq_self,Nat.reduceEqDiff,Nat.reducePow,↓reduceIte,reduceCtorEq,e7]
      refine Apb (by omega) (by omega) rfl ?_
      have k2:=Tu 4 (b.toNat / 16 % 8) 0 0 r1 bad1
      have k4:=Z7 4 (b.toNat / 16 % 8) 0 0 r1 bad1 (by omega)
      have hs:PV base m out b r'=match nbG 4 (b.toNat / 16 % 8) 0 0 r1 bad1 with
       | (n,r2,bad2)=>if bad2=false∧a+(if n=0 then 65536 else n)≤base.length∧out.length+(if n=0 then 65536 else n)≤m then
        some (out++(base.drop a).take (if n=0 then 65536 else n),r2) else none:=by rw [PV,if_neg h0,if_neg h128,g1]
      rcases g2:nbG 4 (b.toNat / 16 % 8) 0 0 r1 bad1 with ⟨n2,r2',bad2⟩
      rw [g2] at k2 k4 hs
      simp only at k2 k4 hs
      simp -dsimp (disch:=first | assumption | omega) only [↓Ak,Ae,Ai,Aj,eq_self,Nat.reduceEqDiff,↓reduceIte,reduceCtorEq]
      obtain ⟨sz,hsz⟩:∃ sz,sz=if n2=0 then 65536 else n2:=⟨_,rfl⟩
      rw [←hsz] at hs
      refine Ee (fun hz => ?_) (fun hz => ?_)
      ·rw [if_pos hz] at hsz
       simp -dsimp (disch:=first | assumption | omega) only [↓Ak,Ae,Ai,Aj,eq_self,Nat.reduceEqDiff,↓reduceIte,Nat.reduceAdd,reduceCtorEq,↓Am]
       cases bad2 with
       | true =>
        simp -dsimp (disch:=first | assumption | omega) only [↓Ak,Ae,Ai,Aj,eq_self,Nat.reduceEqDiff,↓reduceIte,reduceCtorEq,↓Am]
        simp [Io,hd (by rw [hs]; simp)]
       | false =>
        simp only [true_and] at hs
        simp -dsimp (disch:=first | assumption | omega) only [↓Ak,Ae,Ai,Aj,eq_self,Nat.reduceEqDiff,↓reduceIte,reduceCtorEq]
        refine Ee (fun hr => ?_) (fun hr => ?_)
        ·simp -dsimp (disch:=first | assumption | omega) only [↓Ak,Ae,Ai,Aj,eq_self,Nat.reduceEqDiff,↓reduceIte,reduceCtorEq,↓Am]
         simp [Io,hd (by rw [hs,if_neg (by omega)])]
        ·simp -dsimp (disch:=first | assumption | omega) only [↓Ak,Ae,Ai,Aj,eq_self,Nat.reduceEqDiff,↓reduceIte,reduceCtorEq]
         refine Ee (fun hm2 => ?_) (fun hm2 => ?_)
         ·simp -dsimp (disch:=first | assumption | omega) only [↓Ak,Ae,Ai,Aj,eq_self,Nat.reduceEqDiff,↓reduceIte,↓Am]
          simp [Io,hd (by rw [hs,if_neg (by omega)])]
         ·rw [if_pos (by omega)] at hs
          rw [hs] at hrun
          have hl2:(base.drop a).length=base.length - a:=by simp
          subst hsz
          simp -dsimp (disch:=first | assumption | omega) only [↓Ak,Ae,Ai,Aj,eq_self,Nat.reduceEqDiff,↓reduceIte,Nat.reduceAdd,reduceCtorEq,Nat.reduceLeDiff,↓Am]
          have hlen:(out++(base.drop a).take 65536).length=out.length+65536:=by simp; omega
          refine Ba r2'.length (by omega) (by simp) ⟨ver+1,out.length+65536,out.length+65536,(out++(base.drop a).take 65536).map by8,out++(base.drop a).take 65536,r2',rfl,by omega,by omega,by rw [List.take_of_length_le (by simp)],by simp,?_,?_,?_⟩
          ·rw [←hrun]; exact Lh _ _ _ _ (by simp) (by omega)
          ·rw [hlen]; rfl
          ·rw [List.map_append,←hcs]
      ·rw [if_neg hz] at hsz
       simp -dsimp (disch:=first | assumption | omega) only [↓Ak,Ae,Ai,Aj,eq_self,Nat.reduceEqDiff,↓reduceIte,Nat.reduceAdd,reduceCtorEq,↓Am]
       cases bad2 with
       | true =>
        simp -dsimp (disch:=first | assumption | omega) only [↓Ak,Ae,Ai,Aj,eq_self,Nat.reduceEqDiff,↓reduceIte,reduceCtorEq,↓Am]
        simp [Io,hd (by rw [hs]; simp)]
       | false =>
        simp only [true_and] at hs
        simp -dsimp (disch:=first | assumption | omega) only [↓Ak,Ae,Ai,Aj,eq_self,Nat.reduceEqDiff,↓reduceIte,reduceCtorEq]
        refine Ee (fun hr => ?_) (fun hr => ?_)
        ·simp -dsimp (disch:=first | assumption | omega) only [↓Ak,Ae,Ai,Aj,eq_self,Nat.reduceEqDiff,↓reduceIte,reduceCtorEq,↓Am]
         simp [Io,hd (by rw [hs,if_neg (by omega)])]
        ·simp -dsimp (disch:=first | assumption | omega) only [↓Ak,Ae,Ai,Aj,eq_self,Nat.reduceEqDiff,↓reduceIte,reduceCtorEq]
         refine Ee (fun hm2 => ?_) (fun hm2 => ?_)
         ·simp -dsimp (disch:=first | assumption | omega) only [↓Ak,Ae,Ai,Aj,eq_self,Nat.reduceEqDiff,↓reduceIte,↓Am]
          simp [Io,hd (by rw [hs,if_neg (by omega)])]
         ·rw [if_pos (by omega)] at hs
          rw [hs] at hrun
          have hl2:(base.drop a).length=base.length - a:=by simp
          subst hsz
          simp -dsimp (disch:=first | assumption | omega) only [↓Ak,Ae,Ai,Aj,eq_self,Nat.reduceEqDiff,↓reduceIte,Nat.reduceAdd,reduceCtorEq,↓Am]
          have hlen:(out++(base.drop a).take sz).length=out.length+sz:=by simp; omega
          refine Ba r2'.length (by omega) (by simp) ⟨ver+1,out.length+sz,out.length+sz,(out++(base.drop a).take sz).map by8,out++(base.drop a).take sz,r2',rfl,by omega,by omega,by rw [List.take_of_length_le (by simp)],by simp,?_,?_,?_⟩
          ·rw [←hrun]; exact Lh _ _ _ _ (by simp) (by omega)
          ·rw [hlen]; rfl
          ·rw [List.map_append,←hcs]
end
section
open Go.RowKit
variable [A7]
def szB:Nat→Nat→List UInt8
 | 0,n=>[UInt8.ofNat n]
 | f+1,n=>if 127<n then UInt8.ofNat (n % 128+128)::szB f (n / 128) else [UInt8.ofNat n]
theorem Vo {n:Nat} (h:n<256):(UInt8.ofNat n).toNat=n:=by rw [UInt8.toNat_ofNat']; omega
theorem AbA:∀ (f i n z:Nat) (r:List UInt8),n<2 ^ (7*(f+1))→z<2 ^ (7*i)→(0<i→0<n)→szG (f+1) i z (szB f n++r) false=(z+n*2 ^ (7*i),r,false):=by
 intro f
 induction f with
 | zero =>
  intro i n z r h hz hp
  have hn:n<128:=by simpa using h
  rw [szB,List.cons_append,List.nil_append,TS (by rw [Vo (by omega)]; exact hn),Vo (by omega),AdY,Nat.mod_eq_of_lt hn,Z8 hz]
  have:(decide (0<i) && decide (n=0))=false:=by
   simp only [Bool.and_eq_false_iff,decide_eq_false_iff_not]
   by_cases hi:0<i
   ·right; have:=hp hi; omega
   ·left; exact hi
  rw [this]; rfl
 | succ f ih =>
  intro i n z r h hz hp
  rw [szB]
  by_cases hn:127<n
  ·rw [if_pos hn,List.cons_append,Wp (by rw [Vo (by omega)]; omega),Vo (by omega),AdY]
   have e1:(n % 128+128) % 128=n % 128:=by omega
   rw [e1,Z8 hz]
   have hz2:z+n % 128*2 ^ (7*i)<2 ^ (7*(i+1)):=by
    rw [show 7*(i+1)=7*i+7 by omega,Nat.pow_add]
    have:n % 128*2 ^ (7*i)≤127*2 ^ (7*i):=Nat.mul_le_mul_right _ (by omega)
    have:(2:Nat) ^ 7=128:=rfl
    omega
   have hn2:n / 128<2 ^ (7*(f+1)):=by
    rw [show 7*(f+1+1)=7*(f+1)+7 by omega,Nat.pow_add] at h
    have:(2:Nat) ^ 7=128:=rfl
    exact Nat.div_lt_of_lt_mul (by rw [Nat.mul_comm]; omega)
   rw [ih (i+1) (n / 128) _ r hn2 hz2 (fun _=>by omega)]
   congr 1
   rw [show 7*(i+1)=7*i+7 by omega,Nat.pow_add,show (2:Nat) ^ 7=128 from rfl]
   have hd:=Nat.div_add_mod n 128
   have:n*2 ^ (7*i)=(n / 128)*(2 ^ (7*i)*128)+n % 128*2 ^ (7*i):=by
    conv=>lhs; rw [←hd]
    rw [Nat.add_mul,Nat.mul_comm 128 (n / 128),Nat.mul_assoc,Nat.mul_comm 128 (2 ^ (7*i))]
   omega
  ·rw [if_neg hn,List.cons_append,List.nil_append,TS (by rw [Vo (by omega)]; omega),Vo (by omega),AdY,Nat.mod_eq_of_lt (by omega),Z8 hz]
   have:(decide (0<i) && decide (n=0))=false:=by
    simp only [Bool.and_eq_false_iff,decide_eq_false_iff_not]
    by_cases hi:0<i
    ·right; have:=hp hi; omega
    ·left; exact hi
   rw [this]; rfl
theorem YK:∀ (f n:Nat),(szB f n).length≤f+1
 | 0,n=>by rw [szB]; simp
 | f+1,n=>by
  rw [szB]; split
  ·have:=YK f (n / 128); simp; omega
  ·simp
theorem ZH {f n:Nat} (h:n<2097152):(szB f n).length≤3:=by
 cases f with
 | zero=>rw [szB]; simp
 | succ f =>
  rw [szB]; split
  ·cases f with
   | zero=>rw [szB]; simp
   | succ f =>
    rw [szB]; split
    ·have:∀ (f m:Nat),m≤127→(szB f m).length=1:=fun f m hm=>by
      cases f with
      | zero=>rw [szB]; rfl
      | succ f=>rw [szB,if_neg (by omega)]; rfl
     rw [List.length_cons,List.length_cons,this _ _ (by omega)]; omega
    ·simp
  ·simp
theorem AhZ {n m:Nat} (hn:n<1000000) (hm:m<1000000) (r:List UInt8):szs (szB 4 n++(szB 4 m++r))=some (n,m,r):=by
 unfold szs
 rw [AbA 4 0 n 0 _ (by omega) (by simp) (by omega)]
 simp only [Bool.false_eq_true,if_false]
 rw [AbA 4 0 m 0 _ (by omega) (by simp) (by omega)]
 simp
def nzB (xs:List Nat):List UInt8:=(xs.filter fun x=>decide (0<x)).map UInt8.ofNat
def nzM:List Nat→Nat
 | []=>0
 | x::xs=>(if 0<x then 1 else 0)+2*nzM xs
def Abi:List Nat→Nat
 | []=>0
 | x::xs=>x+256*Abi xs
theorem ZP:∀ xs:List Nat,nzM xs<2 ^ xs.length
 | []=>by simp [nzM]
 | x::xs=>by have:=ZP xs; rw [nzM,List.length_cons,Nat.pow_succ]; split<;>omega
theorem Wl:∀ (xs:List Nat) (i n:Nat) (r:List UInt8) (bad:Bool),(∀ x∈xs,x<256)→n<2 ^ (8*i)→nbG xs.length (nzM xs) i n (nzB xs++r) bad=(n+Abi xs*2 ^ (8*i),r,bad)
 | [],i,n,r,bad,_,_=>by simp [nbG,nzB,Abi]
 | x::xs,i,n,r,bad,hx,hn=>by
  have hx0:=hx x (by simp)
  have hn2:n+x*2 ^ (8*i)<2 ^ (8*(i+1)):=by
   rw [show 8*(i+1)=8*i+8 by omega,Nat.pow_add]
   have:x*2 ^ (8*i)≤255*2 ^ (8*i):=Nat.mul_le_mul_right _ (by omega)
   have:(2:Nat) ^ 8=256:=rfl
   omega
  have hv:(x+256*Abi xs)*2 ^ (8*i)=x*2 ^ (8*i)+Abi xs*2 ^ (8*(i+1)):=by
   rw [show 8*(i+1)=8*i+8 by omega,Nat.pow_add,show (2:Nat) ^ 8=256 from rfl,Nat.add_mul]
   congr 1
   rw [Nat.mul_comm 256 (Abi xs),Nat.mul_assoc,Nat.mul_comm 256]
  rw [List.length_cons,nbG,nzM]
  by_cases h0:0<x
  ·rw [if_pos h0,if_pos (by omega)]
   have e1:nzB (x::xs)++r=UInt8.ofNat x::(nzB xs++r):=by simp [nzB,h0]
   rw [e1]
   show nbG xs.length ((1+2*nzM xs) / 2) (i+1) (n ||| (UInt8.ofNat x).toNat*2 ^ (8*i)) (nzB xs++r) bad=_
   rw [Vo hx0,Z8 hn,show (1+2*nzM xs) / 2=nzM xs by omega,Wl xs (i+1) _ r bad (fun y hy=>hx y (by simp [hy])) hn2,Abi,hv]
   simp only [Nat.add_assoc]
  ·rw [if_neg h0,if_neg (by omega)]
   have hx00:x=0:=by omega
   subst hx00
   have e1:nzB (0::xs)++r=nzB xs++r:=by simp [nzB]
   rw [e1,show (0+2*nzM xs) / 2=nzM xs by omega,Wl xs (i+1) n r bad (fun y hy=>hx y (by simp [hy])) (by simpa using hn2),Abi,hv]
   simp
def cpN (a k:Nat):List Nat:=[a % 256,a / 256 % 256,a / 65536 % 256,a / 16777216 % 256,k % 256,k / 256 % 256]
def Ag8 (a k:Nat):List UInt8:=UInt8.ofNat (128+nzM (cpN a k))::nzB (cpN a k)
def Ops (base d out:List UInt8):Prop:=∀ (m:Nat) (pre r:List UInt8),pre.length+out.length≤m→Yt base m (d++r).length pre (d++r)=Yt base m r.length (pre++out) r
theorem Ops.nil {base:List UInt8}:Ops base [] []:=fun m pre r h=>by simp
theorem Ops.app {base d e out o2:List UInt8} (h:Ops base d out) (h2:Ops base e o2):Ops base (d++e) (out++o2):=fun m pre r hl=>by
 rw [List.length_append] at hl
 rw [List.append_assoc,h m pre (e++r) (by omega),h2 m (pre++out) r (by rw [List.length_append]; omega),List.append_assoc]
theorem Ops.own {base own:List UInt8} (h:own≠[]) (hl:own.length≤127):Ops base (UInt8.ofNat own.length::own) own:=fun m pre r hm=>by
 have h0:0<own.length:=List.length_pos_iff.2 h
 rw [List.cons_append,List.length_cons,Yt]
 have hs:PV base m pre (UInt8.ofNat own.length) (own++r)=some (pre++own,r):=by
  unfold PV
  rw [Vo (by omega),if_neg (by omega),if_pos (by omega),if_pos ⟨by simp,hm⟩]
  simp
 rw [hs]
 exact Lh _ _ _ _ (by simp) (Nat.le_refl _)
theorem AbF (a b c d e f:Nat):nzM [a,b,c,d,e,f]=nzM [a,b,c,d]+16*nzM [e,f]:=by
 simp only [nzM]; omega
theorem Yq (a b c d e f:Nat):nzB [a,b,c,d,e,f]=nzB [a,b,c,d]++nzB [e,f]:=by
 unfold nzB
 rw [←List.map_append,←List.filter_append]; rfl
theorem Ops.copy {base:List UInt8} {a k:Nat} (hk0:0<k) (hk:k≤65535) (ha:a+k≤base.length) (hb:base.length<4294967296):Ops base (Ag8 a k) ((base.drop a).take k):=fun m pre r hm=>by
 have hlen:((base.drop a).take k).length=k:=by rw [List.length_take,List.length_drop]; omega
 rw [hlen] at hm
 have h1:=ZP [a % 256,a / 256 % 256,a / 65536 % 256,a / 16777216 % 256]
 have h2:=ZP [k % 256,k / 256 % 256]
 simp only [List.length_cons,List.length_nil] at h1 h2
 unfold Ag8 cpN
 rw [AbF,Yq,List.cons_append,List.length_cons,Yt]
 generalize hA:nzM [a % 256,a / 256 % 256,a / 65536 % 256,a / 16777216 % 256]=A at *
 generalize hB:nzM [k % 256,k / 256 % 256]=B at *
 have hs:PV base m pre (UInt8.ofNat (128+(A+16*B))) (nzB [a % 256,a / 256 % 256,a / 65536 % 256,a / 16777216 % 256]++nzB [k % 256,k / 256 % 256]++r)=some (pre++(base.drop a).take k,r):=by
  unfold PV
  rw [Vo (by omega),if_neg (by omega),if_neg (by omega),show (128+(A+16*B)) % 16=A by omega,show (128+(A+16*B)) / 16 % 8=B by omega,List.append_assoc]
  have g1:=Wl [a % 256,a / 256 % 256,a / 65536 % 256,a / 16777216 % 256] 0 0 (nzB [k % 256,k / 256 % 256]++r) false (fun x hx=>by simp at hx; omega) (by simp)
  have g2:=Wl [k % 256,k / 256 % 256] 0 0 r false (fun x hx=>by simp at hx; omega) (by simp)
  simp only [List.length_cons,List.length_nil] at g1 g2
  rw [hA] at g1; rw [hB] at g2
  have g3:nbG 4 B 0 0 (nzB [k % 256,k / 256 % 256]++r) false=nbG 2 B 0 0 (nzB [k % 256,k / 256 % 256]++r) false:=by
   rw [Uw 3 B 0 0 _ false (by omega),Uw 2 B 0 0 _ false (by omega)]
  have v1:0+Abi [a % 256,a / 256 % 256,a / 65536 % 256,a / 16777216 % 256]*2 ^ (8*0)=a:=by simp [Abi]; omega
  have v2:0+Abi [k % 256,k / 256 % 256]*2 ^ (8*0)=k:=by simp [Abi]; omega
  rw [v1] at g1
  rw [v2] at g2
  simp only [g1,g3,g2]
  rw [if_neg (by omega:¬ k=0),if_pos ⟨trivial,ha,hm⟩]
 rw [hs]
 exact Lh _ _ _ _ (by simp only [List.length_append]; omega) (Nat.le_refl _)
theorem AeI (a k:Nat) (ha:a<16777216):(Ag8 a k).length≤6:=by
 unfold Ag8 cpN
 have h0:a / 16777216 % 256=0:=by omega
 rw [h0,Yq,List.length_cons,List.length_append]
 have:∀ xs:List Nat,(nzB xs).length≤xs.length:=fun xs=>by
  unfold nzB; rw [List.length_map]; exact List.length_filter_le _ _
 have h1:=this [k % 256,k / 256 % 256]
 have h2:(nzB [a % 256,a / 256 % 256,a / 65536 % 256,0]).length≤3:=by
  have e:nzB [a % 256,a / 256 % 256,a / 65536 % 256,0]=nzB [a % 256,a / 256 % 256,a / 65536 % 256]:=by
   unfold nzB
   rw [show [a % 256,a / 256 % 256,a / 65536 % 256,0]=[a % 256,a / 256 % 256,a / 65536 % 256]++[0] from rfl,List.filter_append]
   simp
  rw [e]; exact this _
 simp at h1
 omega
def ownB:Nat→List UInt8→List UInt8
 | 0,_=>[]
 | f+1,l=>if l=[] then [] else UInt8.ofNat (l.take 127).length::l.take 127++ownB f (l.drop 127)
theorem Ops.owns {base:List UInt8}:∀ (f:Nat) (l:List UInt8),l.length≤f→Ops base (ownB f l) l
 | 0,l,h=>by have:=List.eq_nil_of_length_eq_zero (by omega:l.length=0); subst this; exact Ops.nil
 | f+1,l,h=>by
  rw [ownB]
  by_cases hl:l=[]
  ·subst hl; exact Ops.nil
  ·rw [if_neg hl]
   have h0:0<l.length:=List.length_pos_iff.2 hl
   have:=(Ops.own (base:=base) (own:=l.take 127) (fun e=>(List.take_eq_nil_iff.1 e).elim (fun h=>by omega) hl) (by simp; omega)).app (Ops.owns f (l.drop 127) (by simp; omega))
   rw [List.take_append_drop] at this
   exact this
theorem Sl:∀ (f:Nat) (l:List UInt8),(ownB f l).length≤l.length+(l.length+126) / 127
 | 0,l=>by rw [ownB]; simp
 | f+1,l=>by
  rw [ownB]
  by_cases hl:l=[]
  ·rw [if_pos hl]; simp
  ·rw [if_neg hl]
   have h0:0<l.length:=List.length_pos_iff.2 hl
   have:=Sl f (l.drop 127)
   simp only [List.length_append,List.length_cons,List.length_take,List.length_drop] at *
   omega
def cpB:Nat→Nat→Nat→List UInt8
 | 0,_,_=>[]
 | f+1,a,n=>if n=0 then [] else Ag8 a (min n 65535)++cpB f (a+min n 65535) (n - min n 65535)
theorem Ops.copies {base:List UInt8} (hb:base.length<4294967296):∀ (f a n:Nat),n≤f→a+n≤base.length→Ops base (cpB f a n) ((base.drop a).take n)
 | 0,a,n,h,_=>by
            have:n=0:=by omega
            subst this; simpa [cpB] using Ops.nil
 | f+1,a,n,h,ha=>by
  rw [cpB]
  by_cases hn:n=0
  ·subst hn; simpa using Ops.nil
  ·rw [if_neg hn]
   have h1:=Ops.copy (base:=base) (a:=a) (k:=min n 65535) (by omega) (by omega) (by omega) hb
   have h2:=Ops.copies hb f (a+min n 65535) (n - min n 65535) (by omega) (by omega)
   have:=h1.app h2
   have e:(base.drop a).take (min n 65535)++(base.drop (a+min n 65535)).take (n - min n 65535)=(base.drop a).take n:=by
    rw [←List.drop_drop]
    conv=>rhs; rw [show n=min n 65535+(n - min n 65535) by omega,List.take_add]
   rw [e] at this
   exact this
theorem Y9:∀ (f a n:Nat),n≤f→a+n<16777216→(cpB f a n).length≤6*((n+65534) / 65535)
 | 0,a,n,h,_=>by simp [cpB]
 | f+1,a,n,h,ha=>by
  rw [cpB]
  by_cases hn:n=0
  ·rw [if_pos hn]; simp
  ·rw [if_neg hn,List.length_append]
   have h1:=AeI a (min n 65535) (by omega)
   have h2:=Y9 f (a+min n 65535) (n - min n 65535) (by omega) (by omega)
   omega
def Ah6 (base target d:List UInt8):Prop:=(∃ ops,d=szB 4 base.length++(szB 4 target.length++ops)∧Ops base ops target)∧d.length≤target.length+target.length / 127+7
theorem Ah6.apply {base target d:List UInt8} (hb:base.length≤100000) (ht:target.length≤100000) (h:Ah6 base target d):Oc base d=some target∧szs d=some (base.length,target.length,d.drop ((szB 4 base.length).length+(szB 4 target.length).length)):=by
 obtain ⟨⟨ops,rfl,ho⟩,_⟩:=h
 have hs:=AhZ (n:=base.length) (m:=target.length) (by omega) (by omega) ops
 constructor
 ·unfold Oc
  rw [hs]
  show (if base.length=base.length∧target.length≤100000 then Yt base target.length ops.length [] ops else none)=_
  rw [if_pos ⟨rfl,ht⟩]
  have:=ho target.length [] [] (by simp)
  simp only [List.append_nil,List.nil_append] at this
  rw [this,List.length_nil,Yt,if_pos rfl]
 ·rw [hs,←List.append_assoc,List.drop_left' (by simp)]
end
section
open Go.RowKit
variable [A7]
set_option autoImplicit false
section
variable {t:TypeId} {a b:Nat} {k2:IntKind}
theorem Aon {n:Nat} (h:n<256):IntKind.u8.wrap (n:Int)=n:=by rw [IntKind.wrap_u8]; omega
theorem bv8 {n:Nat}:(BitVec.ofInt 8 (n:Int)).toNat=n % 256:=by
 rw [BitVec.toNat_ofInt]; omega
theorem Aj3 (h1:a<256) (h2:b<256):Ei t .or (.int .u8 (a:Int)) (.int .u8 (b:Int))=some (.int .u8 ((a ||| b:Nat):Int)):=by
 rw [show Ei t .or (.int .u8 (a:Int)) (.int .u8 (b:Int))=some (.int .u8 (IntKind.u8.wrap ((BitVec.ofInt 8 a ||| BitVec.ofInt 8 b).toNat:Int))) from rfl,BitVec.toNat_or,bv8,bv8,Nat.mod_eq_of_lt (by omega),Nat.mod_eq_of_lt (by omega)]
 have:=Nat.or_lt_two_pow (n:=8) (x:=a) (y:=b) (by omega) (by omega)
 rw [Aon (by omega)]
end
theorem Acp {n:Nat} (h:n<256):TV.val (.int .u8 (n:Int))=by8 (UInt8.ofNat n):=by
 show TV.val (.int .u8 (n:Int))=TV.val (.int .u8 ((UInt8.ofNat n).toNat:Int))
 rw [UInt8.toNat_ofNat',Nat.mod_eq_of_lt (by omega)]
end
section
open Go.RowKit
variable [A7]
section
variable {t:TypeId} {a b:Nat} {k2:IntKind}
end
end
section
open Go.RowKit
variable [A7]
structure Al1 (c c':Ctx) (n:Nat):Prop where
 beta:∀ id ver,c'.β (id+n) ver=c.β id ver
 has:∀ id ver,c.has id ver→c'.has (id+n) ver
 keepF:∀ b,c.F b→c'.F b
theorem Al1.bare {c c':Ctx} {n:Nat} {w:World} (h:Al1 c c' n):Hm c.bare w c'.bare w:=⟨fun b hb=>⟨h.keepF b hb,rfl⟩,fun _ _ k=>(Ctx.bare_has k).elim,fun _ _=>rfl⟩
end
section
open Go.RowKit
variable [A7]
theorem Rw {α:Type} {z a:α}:(List.replicate 1 z).set 0 a=[a]:=by simp [List.replicate]
structure OE (H H':List Ob) (id:Nat) (o:Ob):Prop where
 at':H'[id]?=some o
 low:∀ i,i<H.length→i≠id→H'[i]?=H[i]?
 len:H.length≤H'.length
theorem OE.trans {H H1 H2:List Ob} {id:Nat} {o o2:Ob} (h:OE H H1 id o) (k:OE H1 H2 id o2):OE H H2 id o2:=⟨k.at',fun i h1 h2=>(k.low i (Nat.lt_of_lt_of_le h1 h.len) h2).trans (h.low i h1 h2),Nat.le_trans h.len k.len⟩
abbrev Vb (v:Nat) (l:List UInt8):Ob := .obj v (.arr l.length 1 (l.map by8))
theorem OE.snoc {H H' T:List Ob} {id v:Nat} {l m:List UInt8} {o:Ob} (h:OE H H' id o):OE H (H'.set id (.obj (v+1) (.arr (l.length+m.length) 1 (l.map by8++m.map by8)))++T) id (Vb (v+1) (l++m)):=by
 have hid:=(List.getElem?_eq_some_iff.1 h.at').1
 refine ⟨?_,fun j h1 h2 => ?_,by simp; have:=h.len; omega⟩
 ·rw [List.getElem?_append_left (by simpa using hid),List.getElem?_set_self hid,Vb,List.map_append,List.length_append]
 ·rw [List.getElem?_append_left (by have:=h.len; simp; omega),List.getElem?_set_ne (Ne.symm h2)]; exact h.low j h1 h2
def lcp:List UInt8→List UInt8→Nat
 | x::a,y::b=>if x=y then lcp a b+1 else 0
 | _,_=>0
theorem AbD:∀ b,lcp [] b=0:=fun b=>by cases b<;>rfl
theorem Ahh:∀ (a b:List UInt8),lcp a b≤a.length∧lcp a b≤b.length
 | [],b=>by simp [lcp]
 | x::a,[]=>by simp [lcp]
 | x::a,y::b=>by have:=Ahh a b; rw [lcp]; split<;>simp<;>omega
theorem Aae:∀ (a b:List UInt8),a.take (lcp a b)=b.take (lcp a b)
 | [],b=>by simp [lcp]
 | x::a,[]=>by simp [lcp]
 | x::a,y::b=>by
  rw [lcp]
  split
  ·rename_i h; subst h; simp [Aae a b]
  ·simp
theorem Abs (a b:List UInt8) (ha:a.length≤1000000) (hb:b.length≤1000000):NF Tryd.prog 25 [slB a,slB b] (fun r=>r=i64 (lcp a b:Int)):=by
 refine Au.toPureV (U5 (by simp) ?_)
 simp -dsimp (disch:=first | assumption | omega | (simp only [Af];try omega)) only [↓Ak,Ae,Ai,Aj,eq_self,Nat.reduceEqDiff,↓reduceIte,Nat.reduceAdd,reduceCtorEq,↓Uj,↓Qz,↓Qx]
 refine KH (fun q e H=>∃ k:Nat,q=a.length - k∧k≤a.length∧k≤b.length∧k+lcp (a.drop k) (b.drop k)=lcp a b∧H=[]∧e=[(0,slB a),(1,slB b),(5,i64 (k:Int))]) a.length ?_ ?_
 ·exact ⟨0,rfl,Nat.zero_le _,Nat.zero_le _,by simp,rfl,rfl⟩
 rintro q e H ⟨k,rfl,hk,hk2,hl,rfl,rfl⟩
 by_cases h1:k<a.length
 case neg =>
  have e1:a.drop k=[]:=List.drop_of_length_le (by omega)
  rw [e1,AbD] at hl
  simp -dsimp (disch:=first | assumption | omega | (simp only [Af];try omega)) only [↓Ak,Ae,Ai,Aj,eq_self,Nat.reduceEqDiff,↓reduceIte,reduceCtorEq,↓Dt,↓EZ,↓IK]
  rw [←hl]; rfl
 by_cases h2:k<b.length
 case neg =>
  have e1:b.drop k=[]:=List.drop_of_length_le (by omega)
  have:lcp (a.drop k) []=0:=by cases a.drop k<;>rfl
  rw [e1,this] at hl
  simp -dsimp (disch:=first | assumption | omega | (simp only [Af];try omega)) only [↓Ak,Ae,Ai,Aj,eq_self,Nat.reduceEqDiff,↓reduceIte,reduceCtorEq,h1,h2,↓Dt,↓EZ,↓IK]
  rw [←hl]; rfl
 have ga:a[k]?=some a[k]:=List.getElem?_eq_getElem h1
 have gb:b[k]?=some b[k]:=List.getElem?_eq_getElem h2
 rw [List.drop_eq_getElem_cons h1,List.drop_eq_getElem_cons h2,lcp] at hl
 generalize a[k]=x at *
 generalize b[k]=y at *
 by_cases hxy:x=y
 ·subst hxy
  rw [if_pos rfl] at hl
  simp -dsimp (disch:=first | assumption | omega | (simp only [Af];try omega)) only [↓Ak,Ae,Ai,Aj,eq_self,Nat.reduceEqDiff,↓reduceIte,reduceCtorEq,h1,h2,ga,gb,↓Dt]
  exact Ba (a.length - (k+1)) (by omega) (by simp) ⟨k+1,rfl,by omega,by omega,by omega,rfl,rfl⟩
 ·rw [if_neg hxy] at hl
  have hn:¬ x.toNat=y.toNat:=fun e=>hxy (UInt8.toNat_inj.1 e)
  simp -dsimp (disch:=first | assumption | omega | (simp only [Af];try omega)) only [↓Ak,Ae,Ai,Aj,eq_self,Nat.reduceEqDiff,↓reduceIte,reduceCtorEq,h1,h2,ga,gb,hn,↓Dt,↓EZ,↓IK]
  rw [←hl]; rfl
set_option maxRecDepth 100000 in
theorem AlY:∀ b:Fin 256,(b.val ||| 128=b.val % 128+128):=by decide
theorem An8 {b:Nat} (h:b<256):b ||| 128=b % 128+128:=AlY ⟨b,h⟩
theorem Zu {l:List UInt8} {n:Nat} (hn:n<1000000) (hl:l.length≤100000000) {x0:TV} {id v cp:Nat} {H:List Ob} (hx:(x0 = .os 1 id v [] 0 l.length cp∧H[id]?=some (Vb v l))∨(x0 = .val (.slice none 0 0)∧l=[]∧id=H.length)) {K:TV→List Ob→Prop}
  (hK:∀ H' v',OE H H' id (Vb v' (l++szB 4 n))→K (.os 1 id v' [] 0 (l++szB 4 n).length (l++szB 4 n).length) H'):Au Tryd.prog 14 [x0,i64 (n:Int)] H K:=by
 refine Q7 (by simp) ?_
 have hloop:∀ (H1:List Ob) (v0 cp0:Nat),OE H H1 id (Vb v0 l)→vwp Tryd.prog (.loop [0,1] D9) (Blk 0 (Thn Tryd.prog Eh (Vs F5 K))) [(0,.os 1 id v0 [] 0 l.length cp0),(1,i64 (n:Int))] H1:=by
  intro H1 v0 cp0 hG0
  refine KH (fun q e H'=>∃ (f n' v' cp':Nat) (l':List UInt8),q=f∧n'<2 ^ (7*(f+1))∧n'<1000000∧l'.length≤l.length+4∧f≤4∧l'.length+f=l.length+4∧l'++szB f n'=l++szB 4 n∧OE H H' id (Vb v' l')∧H1.length≤H'.length∧e=[(0,.os 1 id v' [] 0 l'.length cp'),(1,i64 (n':Int))]) 4 ?_ ?_
  ·exact ⟨4,n,v0,cp0,l,rfl,by omega,hn,by omega,by omega,by omega,rfl,hG0,Nat.le_refl _,rfl⟩
  rintro f e H' ⟨_,n',v',cp',l',rfl,hf,hn',hll,hf4,hlf,hlist,hG,hHl,rfl⟩
  have hcv:IntKind.u8.wrap (n':Int)=((n' % 256:Nat):Int):=by rw [IntKind.wrap_u8]; omega
  have hidl:=(List.getElem?_eq_some_iff.1 hG.at').1
  have htk:(l'.map by8).take l'.length=l'.map by8:=List.take_of_length_le (by simp)
  have ha:=hG.at'
  by_cases h1:127<n'
  ·cases f with
   | zero=>simp at hf; omega
   | succ f =>
   rw [szB,if_pos h1] at hlist
   have hor:∀ t,Ei t .or (.int .u8 ((n' % 256:Nat):Int)) (.int .u8 ((128:Nat):Int))=some (.int .u8 ((n' % 128+128:Nat):Int)):=fun t=>by
    rw [Aj3 (by omega) (by omega),An8 (Nat.mod_lt _ (by omega))]
    congr 3; omega
   have hb8:TV.val (.int .u8 ((n' % 128+128:Nat):Int))=by8 (UInt8.ofNat (n' % 128+128)):=by rw [Acp (by omega)]
   simp -dsimp (disch:=first | assumption | omega | (simp only [Af];try omega)) only [↓Ak,Ae,Ai,Aj,eq_self,Nat.reduceEqDiff,Nat.reducePow,↓reduceIte,reduceCtorEq,Nat.reduceLeDiff,↓Gi,h1,ha,Rw,htk,hcv,hor,hb8]
   have hg:=hG.snoc (v:=v') (l:=l') (m:=[UInt8.ofNat (n' % 128+128)]) (T:=[Ob.obj 0 (TV.arr 1 1 [by8 (UInt8.ofNat (n' % 128+128))])])
   have hn2:n' / 128<2 ^ (7*(f+1)):=by
    rw [show 7*(f+1+1)=7*(f+1)+7 by omega,Nat.pow_add] at hf
    have:(2:Nat) ^ 7=128:=rfl
    exact Nat.div_lt_of_lt_mul (by rw [Nat.mul_comm]; omega)
   exact Ba f (by omega) (by simp; omega) ⟨f,n' / 128,v'+1,l'.length+1,l'++[UInt8.ofNat (n' % 128+128)],rfl,hn2,by omega,by simp; omega,by omega,by simp; omega,by rw [List.append_assoc]; exact hlist,hg,by simp; omega,by rw [List.length_append]; rfl⟩
  ·have hsz:szB f n'=[UInt8.ofNat n']:=by cases f<;>simp [szB,h1]
   rw [hsz] at hlist
   have hb8:TV.val (.int .u8 ((n' % 256:Nat):Int))=by8 (UInt8.ofNat n'):=by rw [Acp (by omega)]; congr 1; apply UInt8.toNat_inj.1; simp
   simp -dsimp (disch:=first | assumption | omega | (simp only [Af];try omega)) only [↓Ak,Ae,Ai,Aj,eq_self,Nat.reduceEqDiff,↓reduceIte,reduceCtorEq,Nat.reduceLeDiff,↓Gi,h1,↓Nk,ha,Rw,htk,hcv,hb8,↓Qa]
   have hg:=hG.snoc (v:=v') (l:=l') (m:=[UInt8.ofNat n']) (T:=[Ob.obj 0 (TV.arr 1 1 [by8 (UInt8.ofNat n')])])
   rw [hlist] at hg
   have:=hK _ _ hg
   have hle:(l++szB 4 n).length=l'.length+1:=by rw [←hlist]; simp
   rw [hle] at this
   exact this
 rcases hx with ⟨rfl,hx⟩ | ⟨rfl,rfl,rfl⟩
 ·have:=hloop H v cp ⟨hx,fun _ _ _=>rfl,Nat.le_refl _⟩
  simp -dsimp (disch:=first | assumption | omega | (simp only [Af];try omega)) only [↓Ak,Ae,Ai,Aj,eq_self,Nat.reduceEqDiff,↓reduceIte,Nat.reduceAdd,reduceCtorEq,↓I5,↓F6]
  exact this
 ·have:=hloop (H++[.obj 0 (.arr 0 1 [])]) 0 0 ⟨by simp,fun i h1 h2=>by rw [List.getElem?_append_left h1],by simp⟩
  simp -dsimp (disch:=first | assumption | omega | (simp only [Af];try omega)) only [↓Ak,Ae,Ai,Aj,eq_self,Nat.reduceEqDiff,↓reduceIte,Nat.reduceAdd,reduceCtorEq,↓I5,↓F6]
  exact this
end
section
open Go.RowKit
variable [A7]
theorem Vz {P:Program} {c:Ctx} {w:World} {l:List UInt8} {v:Value} (h:Rep c w (slB l) v):(Extern.Bytes.bytesOf v).run P w = .ok ⟨l.toArray⟩ w:=by
 obtain ⟨hw,hr⟩:=h.sl
 rcases hr with ⟨he,ad,cap,rfl,_⟩ | ⟨b,off,cap,us,rfl,h3,h4,h5,h6,h7⟩
 ·have hl:l=[]:=by simpa using he
  subst hl
  cases ad with
  | none=>rfl
  | some a=>rfl
 ·have hb:=Hw (fun y hy=>by obtain ⟨b,_,rfl⟩:=List.mem_map.1 hy; exact Z9 b) h6
  rw [PH] at hb
  have hl:=Lib.run_loadBytesX (P:=P) w (l.map fun b:UInt8=>(b.toNat:Int)) ⟨b,off,none⟩ .empty (fun j x hj=>by
   rw [CV]
   refine h7 j _ ?_
   rw [hb,List.getElem?_map]
   rw [List.getElem?_map] at hj
   cases hg:l[j]? with
   | none=>rw [hg] at hj; cases hj
   | some y=>rw [hg] at hj; cases hj; rfl)
  have e2:Lib.bytesOf (l.map fun b:UInt8=>(b.toNat:Int))=l:=by simp [Lib.bytesOf,List.map_map,Function.comp_def]
  rw [e2] at hl
  simp only [List.length_map] at hl ⊢
  simp only [Extern.Bytes.bytesOf]
  rw [hl]
  congr 1
  apply ByteArray.ext
  show (#[]:Array UInt8)++l.toArray=l.toArray
  simp
theorem X9 {P:Program} {w:World} {u v:Value} {a b:List UInt8} (h1:(Extern.Bytes.bytesOf u).run P w = .ok ⟨a.toArray⟩ w) (h2:(Extern.Bytes.bytesOf v).run P w = .ok ⟨b.toArray⟩ w):(Extern.BytealgCompare.compare #[u,v]).run P w = .ok (.int .i64 (Lib.compareBytes a b)) w:=by
 change Sem.run P (do pure (goInt (Extern.BytealgCompare.cmp (←Extern.Bytes.bytesOf u) (←Extern.Bytes.bytesOf v)))) w=_
 simp only [Sem.run_bind,Sem.run_pure,h1,h2,Result.andThen]
 rw [Lib.cmp_eq]
 rfl
set_option maxHeartbeats 2000000 in
set_option maxRecDepth 100000 in
theorem Aam (u v:Value) (z:Int) (w:World) (h:(Extern.BytealgCompare.compare #[u,v]).run Tryd.prog w = .ok (.int .i64 z) w) :
  Calls Tryd.prog 28 #[u,v] w fun e w'=>e = .returned (.int .i64 z)∧w'=w:=by
 go_enter Tryd.func28,Tryd.ntmps28
 go_wp2
 rw [run_callFunc_extern Tryd.func37 (by kernel_rfl) (by kernel_rfl) (by kernel_rfl) (e:=Extern.BytealgCompare.compare) (by kernel_rfl),h]
 simp only [Result.andThen]
 rw [Oper.upon_value]
 go_wp2
 go_ret
 exact ⟨rfl,rfl⟩
theorem Afr (a b:List UInt8):NF Tryd.prog 28 [slB a,slB b] (fun x=>x = .val (.int .i64 (Lib.compareBytes a b))):=by
 intro β F w vs hF hv
 obtain ⟨v,us,rfl,h1,hv⟩:=AY.cons.1 hv
 obtain ⟨v2,us,rfl,h2,hv⟩:=AY.cons.1 hv
 rw [AY.nil] at hv; subst hv
 refine (Aam v v2 _ w (X9 (Vz (Or.inl h1)) (Vz (Or.inl h2)))).mono ?_
 rintro e w' ⟨rfl,rfl⟩
 exact ⟨_,_,F,rfl,rfl,Rep.of_val,⟨rfl,rfl,rfl,Nat.le_refl _,fun _ _=>rfl,fun _ h=>h,fun _ _ h=>h,hF.1⟩⟩
end
section
variable [A7]
set_option maxRecDepth 100000
def BH:Ad := .seq (.ops [mv_ 24 2,mv_ 25 0,mv_ 26 11,po_ 27 (.idxA 1 (.t 25) (.t 26)),po_ 28 (.load false 1 (.t 27)),mv_ 29 1,so_ 30 (.callv (.t 24) [.t 28,.t 29]),po_ 31 (.bin 3 .lss (.t 30) (ci_ 0))] [0,1,2,8,9,10,11,31])
 (.cond (.t 31)
 (.ops [mv_ 32 11,po_ 33 (.bin 3 .add (.t 32) (ci_ 1)),mv_ 9 33] [0,1,2,8,9,10])
 (.ops [mv_ 34 11,mv_ 10 34] [0,1,2,8,9,10]))
def BF:Ad := .block 1 (.seq (.ops [mv_ 18 9,mv_ 19 10,po_ 20 (.bin 3 .add (.t 18) (.t 19)),po_ 21 (.conv .u64 (.t 20)),po_ 22 (.bin 37 .shr (.t 21) (.c (.int .u64 ((1:Nat):Int)))),po_ 23 (.conv .i64 (.t 22)),mv_ 11 23] [0,1,2,8,9,10,11])
 BH)
def BG:Ad := .seq (.seq (.ops [mv_ 15 9,mv_ 16 10,po_ 17 (.bin 3 .lss (.t 15) (.t 16))] [0,1,2,8,9,10,17])
 (.cond (.t 17)
 (.skip)
 (.exit 0)))
 BF
def BL:Ad := .seq (.ops [mv_ 35 9,mv_ 36 9,mv_ 37 8,po_ 38 (.bin 3 .lss (.t 36) (.t 37)),mv_ 39 38,⟨some 40,.p (.mov (.t 2)),some ⟨39,true⟩⟩,⟨some 41,.p (.mov (.t 0)),some ⟨39,true⟩⟩,⟨some 42,.p (.mov (.t 9)),some ⟨39,true⟩⟩,⟨some 43,.p (.idxA 1 (.t 41) (.t 42)),some ⟨39,true⟩⟩,⟨some 44,.p (.load false 1 (.t 43)),some ⟨39,true⟩⟩,⟨some 45,.p (.mov (.t 1)),some ⟨39,true⟩⟩,⟨some 46,.s (.callv (.t 40) [.t 44,.t 45]),some ⟨39,true⟩⟩,⟨some 47,.p (.bin 3 .eql (.t 46) (ci_ 0)),some ⟨39,true⟩⟩,po_ 48 (.pick (.t 39) (.t 47) (.c (.bool false))),mv_ 6 35,mv_ 7 48] [6,7])
 (.ret)
def BM:Ad := .seq (.block 0 (.loop [0,1,2,8,9,10] BG))
 BL
def BJ:Ad := .seq (.ops [mv_ 14 8,po_ 9 (.mov (ci_ 0)),mv_ 10 14] [0,1,2,8,9,10])
 BM
def BK:Ad := .seq (.ops [mv_ 12 0,po_ 13 (.lenV (.t 12)),mv_ 8 13] [0,1,2,8])
 BJ
def BR:Ad := .seq (.ops [po_ 6 (.mov (ci_ 0)),po_ 7 (.mov (.c (.bool false)))] [0,1,2])
 BK
def BU:List VR:=[.tmp 6,.tmp 7]
theorem Ej:Tryd.f26.body.bind (trC Tryd.prog Tryd.f26.ntmps)=some (er BR):=by kernel_rfl
theorem Em:trR Tryd.prog Tryd.f26.results.toList=some BU:=by kernel_rfl
def Dq:=Ac BH.eq_1
def Dv:=Ac BF.eq_1
def AV:=Ac BG.eq_1
def BB:=Ac BL.eq_1
def Dw:=Ac BM.eq_1
def Dx:=Ac BJ.eq_1
def Dp:=Ac BK.eq_1
def D8:=Ac BR.eq_1
theorem BQ {K:TV→Prop} {e:Env} {H:List Ob}:res BU e H K=res [.tmp 6,.tmp 7] e H K:=Aa rfl
def Eg:=Sz 49 Tryd.func26 Ej Em rfl
def FM:Ad := .seq (.ops [po_ 5 (.mov (ci_ 0))] [0,1,2])
 (.seq (.ops [po_ 6 (.load false 1 (.t 2)),po_ 7 (.nilc (.t 6)),po_ 8 (.fieldA 0 0 (.t 7)),po_ 9 (.load false 1 (.t 8)),mv_ 10 0,po_ 11 (.slV 1 (.t 9) (some (.t 10)) none),mv_ 12 1,so_ 13 (.call 28 [.t 11,.t 12]),mv_ 5 13] [5])
 (.ret))
def Fq:List VR:=[.tmp 5]
theorem LM:Tryd.f27.body.bind (trC Tryd.prog Tryd.f27.ntmps)=some (er FM):=by kernel_rfl
theorem MP:trR Tryd.prog Tryd.f27.results.toList=some Fq:=by kernel_rfl
def J3:=Ac FM.eq_1
theorem JY {K:TV→Prop} {e:Env} {H:List Ob}:res Fq e H K=res [.tmp 5] e H K:=Aa rfl
def Ff:=(aI_ @J3 @JY)
def KO:=Sz 14 Tryd.func27 LM MP rfl
end
section
open Go.RowKit
variable [A7]
abbrev Amw (base:List UInt8) (x y:TV):TV := .fp (.fp (.agg [slB base,x,y]))
theorem Akz {base b:List UInt8} {p:Nat} (hp:p≤base.length) (hb:base.length≤1000000) {x y:TV}:NF Tryd.prog 27 [i64 (p:Int),slB b,Amw base x y] (fun r=>r=i64 (Lib.compareBytes (base.drop p) b)):=by
 refine Au.toPureV (KO (by simp) ?_)
 simp -dsimp (disch:=first | assumption | omega | (simp only [Af];try omega)) only [↓Ak,Ae,Ai,Aj,eq_self,Nat.reduceEqDiff,↓reduceIte,Nat.reduceAdd,reduceCtorEq,↓Ff]
 refine OD ((Afr (base.drop p) b).calls (by simp [BZ,CX]) fun r hr => ?_)
 subst hr
 simp -dsimp (disch:=first | assumption | omega | (simp only [Af];try omega)) only [↓Ak,Ae,Ai,Aj,eq_self,↓reduceIte,↓Ff]
def bsI (lt:Nat→Bool):Nat→Nat→Nat→Nat
 | 0,i,_=>i
 | f+1,i,j=>if i<j then (if lt ((i+j) / 2) then bsI lt f ((i+j) / 2+1) j else bsI lt f i ((i+j) / 2)) else i
theorem ZY (lt:Nat→Bool):∀ (f i j:Nat),i≤j→bsI lt f i j≤j
 | 0,i,j,h=>h
 | f+1,i,j,h=>by
  rw [bsI]
  split
  ·split
   ·exact ZY lt f _ j (by omega)
   ·exact Nat.le_trans (ZY lt f i _ (by omega)) (by omega)
  ·exact h
theorem Ur (lt:Nat→Bool):∀ (f g i j:Nat),j - i≤f→j - i≤g→bsI lt f i j=bsI lt g i j
 | 0,0,i,j,_,_=>rfl
 | 0,g+1,i,j,h1,h2=>by rw [bsI,bsI,if_neg (by omega)]
 | f+1,0,i,j,h1,h2=>by rw [bsI,bsI,if_neg (by omega)]
 | f+1,g+1,i,j,h1,h2=>by
  rw [bsI,bsI]
  by_cases h:i<j
  ·rw [if_pos h,if_pos h,Ur lt f g ((i+j) / 2+1) j (by omega) (by omega),Ur lt f g i ((i+j) / 2) (by omega) (by omega)]
  ·rw [if_neg h,if_neg h]
def ltP (base b:List UInt8) (ps:List Nat) (h:Nat):Bool:=decide (Lib.compareBytes (base.drop (ps.getD h 0)) b<0)
abbrev psT (ps:List Nat):TV := .sl 1 (ps.map fun p:Nat=>i64 (p:Int))
theorem AgF {t:TypeId} {k2:IntKind} {a b:Nat} (h2:b≤64) (ha:a<18446744073709551616):Ei t .shr (.int .u64 (a:Int)) (.int k2 (b:Int))=some (.int .u64 ((a / 2 ^ b:Nat):Int)):=by
 have e:binOp .shr t (.int .u64 (a:Int)) (.int k2 (b:Int))=pure (.int .u64 ((a / 2 ^ b:Nat):Int)):=by
  show Op.shift .shr .u64 a k2 b=_
  unfold Op.shift
  rw [if_neg (by omega)]
  have hm:min ((b:Int)).toNat IntKind.u64.bits=b:=by
   have:IntKind.u64.bits=64:=rfl
   omega
  simp only [hm]
  rw [Int.fdiv_eq_ediv_of_nonneg _ (by exact Int.le_of_lt (Int.pow_pos (by omega)))]
  have e2:(a:Int) / 2 ^ b=((a / 2 ^ b:Nat):Int):=by rw [Int.natCast_ediv,Int.natCast_pow]; rfl
  rw [e2]
 unfold Ei; rw [e]; rfl
theorem Apt {base b:List UInt8} {ps:List Nat} (hps:∀ p∈ps,p<base.length) (hpl:ps.length≤1000000) (hb:base.length≤1000000) {x y:TV} (hx:CX x=true) (hy:CX y=true) :
  NF Tryd.prog 26 [psT ps,slB b,.fn (.func 27) [] [Amw base x y]] (fun r=>∃ z,r = .tup [i64 (bsI (ltP base b ps) ps.length 0 ps.length:Int),tb z]):=by
 refine Au.toPureV (Eg (by simp) ?_)
 have hgo:SK Tryd.prog 27=true:=by kernel_rfl
 simp -dsimp (disch:=first | assumption | omega | (simp only [Af];try omega)) only [↓Ak,Ae,Ai,Aj,eq_self,Nat.reduceEqDiff,↓reduceIte,Nat.reduceAdd,reduceCtorEq,↓D8,↓Dp,↓Dx,↓Dw]
 refine KH (fun q e H=>∃ i j:Nat,q=j - i∧i≤j∧j≤ps.length∧bsI (ltP base b ps) ps.length 0 ps.length=bsI (ltP base b ps) (j - i) i j∧H=[] ∧
  e=[(0,psT ps),(1,slB b),(2,.fn (.func 27) [] [Amw base x y]),(8,i64 (ps.length:Int)),(9,i64 (i:Int)),(10,i64 (j:Int))]) ps.length ?_ ?_
 ·exact ⟨0,ps.length,rfl,by omega,by omega,rfl,rfl,rfl⟩
 rintro q e H ⟨i,j,rfl,hij,hjl,hbs,rfl,rfl⟩
 by_cases h:i<j
 ·obtain ⟨m,hm⟩:∃ m,m=(i+j) / 2:=⟨_,rfl⟩
  obtain ⟨p,hg⟩:∃ p,ps[m]?=some p:=⟨_,List.getElem?_eq_getElem (by omega)⟩
  have hp:=hps p (List.mem_of_getElem? hg)
  have hgd:ps.getD m 0=p:=by rw [List.getD_eq_getElem?_getD,hg]; rfl
  obtain ⟨f,hf⟩:∃ f,j - i=f+1:=⟨j - i - 1,by omega⟩
  rw [hf,bsI,if_pos h,←hm] at hbs
  have hlt:ltP base b ps m=decide (Lib.compareBytes (base.drop p) b<0):=by unfold ltP; rw [hgd]
  rw [hlt] at hbs
  have hw64:IntKind.u64.wrap ((i+j:Nat):Int)=((i+j:Nat):Int):=by simp [IntKind.wrap,IntKind.bits,IntKind.signed]; omega
  have hshr:∀ t,Ei t .shr (.int .u64 ((i+j:Nat):Int)) (.int .u64 ((1:Nat):Int))=some (.int .u64 ((m:Nat):Int)):=fun t=>by rw [AgF (by omega) (by omega),hm]
  have hm2:i≤m∧m<j:=by omega
  clear hm
  simp -dsimp (disch:=first | assumption | omega | (simp only [Af];try omega)) only [↓Ak,Ae,Ai,Aj,eq_self,Nat.reduceEqDiff,↓reduceIte,reduceCtorEq,↓AV,h,↓Dv,hw64,hshr,↓Dq,hg,hgo]
  refine OD ((Akz (b:=b) (x:=x) (y:=y) (by omega) hb).calls (by simp [BZ,CX]) fun r hr => ?_)
  subst hr
  generalize Lib.compareBytes (base.drop p) b=z at *
  by_cases hz:z<0
  ·rw [decide_eq_true hz,if_pos rfl] at hbs
   have hz0:z<((0:Nat):Int):=hz
   simp -dsimp (disch:=first | assumption | omega | (simp only [Af];try omega)) only [↓Ak,Ae,Ai,Aj,eq_self,Nat.reduceEqDiff,↓reduceIte,reduceCtorEq,hz0]
   exact Ba (j - (m+1)) (by omega) (by simp) ⟨m+1,j,rfl,by omega,by omega,by rw [hbs]; exact Ur _ _ _ _ _ (by omega) (Nat.le_refl _),rfl,rfl⟩
  ·rw [decide_eq_false hz] at hbs
   simp only [Bool.false_eq_true,if_false] at hbs
   have hz0:¬ z<((0:Nat):Int):=hz
   simp -dsimp (disch:=first | assumption | omega | (simp only [Af];try omega)) only [↓Ak,Ae,Ai,Aj,eq_self,Nat.reduceEqDiff,↓reduceIte,reduceCtorEq,hz0]
   exact Ba (m - i) (by omega) (by simp) ⟨i,m,rfl,by omega,by omega,by rw [hbs]; exact Ur _ _ _ _ _ (by omega) (Nat.le_refl _),rfl,rfl⟩
 ·have hij2:i=j:=by omega
  have h0:bsI (ltP base b ps) (j - i) i j=i:=by rw [show j - i=0 by omega,bsI]
  rw [h0] at hbs
  rw [hbs]
  by_cases hin:i<ps.length
  ·obtain ⟨p,hg⟩:∃ p,ps[i]?=some p:=⟨_,List.getElem?_eq_getElem hin⟩
   have hp:=hps p (List.mem_of_getElem? hg)
   simp -dsimp (disch:=first | assumption | omega | (simp only [Af];try omega)) only [↓Ak,Ae,Ai,Aj,eq_self,Nat.reduceEqDiff,↓reduceIte,reduceCtorEq,↓AV,h,↓BB,hin,hg,hgo]
   refine OD ((Akz (b:=b) (x:=x) (y:=y) (by omega) hb).calls (by simp [BZ,CX]) fun r hr => ?_)
   subst hr
   simp -dsimp (disch:=first | assumption | omega | (simp only [Af];try omega)) only [↓Ak,Ae,Ai,Aj,eq_self,Nat.reduceEqDiff,↓reduceIte,↓BQ]
   exact ⟨_,rfl⟩
  ·simp -dsimp (disch:=first | assumption | omega | (simp only [Af];try omega)) only [↓Ak,Ae,Ai,Aj,eq_self,Nat.reduceEqDiff,↓reduceIte,reduceCtorEq,↓AV,h,↓BB,hin,↓BQ]
   exact ⟨_,rfl⟩
end
section
open Go.RowKit Go.Sort
variable [A7]
theorem Abu:∀ {k:Nat} {a a' c c':List UInt8},(a.length<k→a'=[])→(c.length<k→c'=[])→a.length≤k→c.length≤k→(a++a'<c++c'↔a<c∨(a=c∧a'<c'))
 | k,[],a',[],c',_,_,_,_=>by simp
 | 0,x::a,a',c,c',_,_,h,_=>by simp at h
 | 0,[],a',y::c,c',_,_,_,h=>by simp at h
 | k+1,[],a',y::c,c',h1,h2,_,_=>by
  rw [h1 (by simp)]; simp
 | k+1,x::a,a',[],c',h1,h2,_,_=>by
  rw [h2 (by simp)]; simp
 | k+1,x::a,a',y::c,c',h1,h2,h3,h4=>by
  have ih:=Abu (k:=k) (a:=a) (a':=a') (c:=c) (c':=c') (fun h=>h1 (by simp; omega)) (fun h=>h2 (by simp; omega)) (by simp at h3; omega) (by simp at h4; omega)
  rw [List.cons_append,List.cons_append,List.cons_lt_cons_iff,List.cons_lt_cons_iff,ih]
  constructor
  ·rintro (h | ⟨rfl,h | ⟨rfl,h⟩⟩)
   ·exact .inl (.inl h)
   ·exact .inl (.inr ⟨rfl,h⟩)
   ·exact .inr ⟨rfl,h⟩
  ·rintro ((h | ⟨rfl,h⟩) | ⟨he,h⟩)
   ·exact .inl h
   ·exact .inr ⟨rfl,.inl h⟩
   ·cases he; exact .inr ⟨rfl,.inr ⟨rfl,h⟩⟩
def QA (b:List UInt8) (k x:Nat):List UInt8:=(b.drop x).take k
theorem SC {b:List UInt8} {k x:Nat}:(QA b k x).length=min k (b.length - x):=by unfold QA; simp
theorem ZG {b:List UInt8} {k x:Nat}:QA b (2*k) x=QA b k x++QA b k (x+k):=by
 unfold QA; rw [show 2*k=k+k by omega,List.take_add,List.drop_drop]
theorem PO {b:List UInt8} {k x:Nat} (h:b.length≤x):QA b k x=[]:=by unfold QA; rw [List.drop_eq_nil_of_le h]; simp
structure QS (b:List UInt8) (k:Nat) (ranks:List Nat):Prop where
 len:ranks.length=b.length
 lt:∀ x y,x<b.length→y<b.length→(ranks.getD x 0<ranks.getD y 0↔QA b (max 1 k) x<QA b (max 1 k) y)
theorem QS.start {b:List UInt8}:QS b 0 (b.map UInt8.toNat):=by
 refine ⟨by simp,fun x y hx hy => ?_⟩
 have e:∀ x,x<b.length→∃ u,b[x]?=some u∧(b.map UInt8.toNat).getD x 0=u.toNat∧QA b (max 1 0) x=[u]:=fun x hx=>by
  refine ⟨b[x],List.getElem?_eq_getElem hx,?_,?_⟩
  ·rw [List.getD_eq_getElem?_getD,List.getElem?_map,List.getElem?_eq_getElem hx]; rfl
  ·unfold QA
   rw [List.drop_eq_getElem_cons hx]; rfl
 obtain ⟨u,_,hu1,hu2⟩:=e x hx
 obtain ⟨v,_,hv1,hv2⟩:=e y hy
 rw [hu1,hv1,hu2,hv2,List.cons_lt_cons_iff]
 simp [UInt8.lt_iff_toNat_lt]
theorem UV {a c:List UInt8} (h1:¬ a<c) (h2:¬ c<a):a=c:=List.le_antisymm (List.not_lt.1 h2) (List.not_lt.1 h1)
theorem QS.eq {b:List UInt8} {k:Nat} {ranks:List Nat} (h:QS b k ranks) {x y:Nat} (hx:x<b.length) (hy:y<b.length):ranks.getD x 0=ranks.getD y 0↔QA b (max 1 k) x=QA b (max 1 k) y:=by
 have h1:=h.lt x y hx hy
 have h2:=h.lt y x hy hx
 constructor
 ·intro e
  exact UV (fun hl=>by have:=h1.2 hl; omega) (fun hl=>by have:=h2.2 hl; omega)
 ·intro e
  rw [e] at h1 h2
  have i1:¬ ranks.getD x 0<ranks.getD y 0:=fun hl=>List.lt_irrefl _ (h1.1 hl)
  have i2:¬ ranks.getD y 0<ranks.getD x 0:=fun hl=>List.lt_irrefl _ (h2.1 hl)
  omega
theorem QS.cmp {b:List UInt8} {k:Nat} {ranks:List Nat} (h:QS b k ranks) {x y:Nat} (hx:x<b.length) (hy:y<b.length):AdR ranks k b.length x y<0↔QA b (max 1 (2*k)) x<QA b (max 1 (2*k)) y:=by
 unfold AdR
 rw [ZK]
 have h1:=h.lt x y hx hy
 have h2:=h.eq hx hy
 by_cases hk:k=0
 ·subst hk
  simp only [Nat.mul_zero,Nat.max_zero] at h1 ⊢
  rw [←h1]
  constructor
  ·rintro (h | ⟨_,h,_⟩)
   ·omega
   ·exact absurd rfl h
  ·intro h; left; omega
 ·have hm:max 1 k=k:=by omega
  rw [hm] at h1 h2
  rw [show max 1 (2*k)=2*k by omega,ZG,ZG,Abu (k:=k) (fun hl=>PO (by rw [SC] at hl; omega)) (fun hl=>PO (by rw [SC] at hl; omega)) (by rw [SC]; omega) (by rw [SC]; omega),←h1,←h2]
  have hp:pR (fun j=>((ranks.getD j 0:Nat):Int)) k b.length x<pR (fun j=>((ranks.getD j 0:Nat):Int)) k b.length y↔QA b k (x+k)<QA b k (y+k):=by
   unfold pR
   by_cases hxk:x+k<b.length<;>by_cases hyk:y+k<b.length
   ·have:=h.lt _ _ hxk hyk
    rw [hm] at this
    rw [if_pos hxk,if_pos hyk,←this]; exact Int.ofNat_lt
   ·rw [if_pos hxk,if_neg hyk,PO (x:=y+k) (by omega)]
    simp
   ·rw [if_neg hxk,if_pos hyk,PO (x:=x+k) (by omega)]
    have:QA b k (y+k)≠[]:=fun e=>by have:=congrArg List.length e; rw [SC] at this; simp at this; omega
    obtain ⟨z,t,hz⟩:=List.exists_cons_of_ne_nil this
    rw [hz]
    simp only [List.nil_lt_cons,iff_true]
    omega
   ·rw [if_neg hxk,if_neg hyk,PO (x:=y+k) (by omega),PO (x:=x+k) (by omega)]
    simp
  constructor
  ·rintro (h | ⟨e,_,h⟩)
   ·left; omega
   ·right; exact ⟨by omega,hp.1 h⟩
  ·rintro (h | ⟨e,h⟩)
   ·left; omega
   ·right; exact ⟨by omega,hk,hp.2 h⟩
theorem Afk {rank:Nat→Int} {k n x y:Nat}:cfR rank k n y x = - cfR rank k n x y:=by
 unfold cfR
 generalize (if x+k<n then rank (x+k) else -1)=p
 generalize (if y+k<n then rank (y+k) else -1)=q
 split<;>split<;>omega
theorem QS.zero {b:List UInt8} {k:Nat} {ranks:List Nat} (h:QS b k ranks) {x y:Nat} (hx:x<b.length) (hy:y<b.length):AdR ranks k b.length x y=0↔QA b (max 1 (2*k)) x=QA b (max 1 (2*k)) y:=by
 have h1:=h.cmp hx hy
 have h2:=h.cmp hy hx
 have ha:AdR ranks k b.length y x = - AdR ranks k b.length x y:=Afk
 constructor
 ·intro e
  exact UV (fun hl=>by have:=h1.2 hl; omega) (fun hl=>by have:=h2.2 hl; omega)
 ·intro e
  rw [e] at h1 h2
  have i1:¬ AdR ranks k b.length x y<0:=fun hl=>List.lt_irrefl _ (h1.1 hl)
  have i2:¬ AdR ranks k b.length y x<0:=fun hl=>List.lt_irrefl _ (h2.1 hl)
  omega
theorem Uy {n:Nat} {ps:List Nat} (hps:ps.Perm (List.range n)) {i:Nat} (hi:i<n):ps.getD i 0<n:=by
 have hl:ps.length=n:=by have:=hps.length_eq; simpa using this
 rw [List.getD_eq_getElem?_getD,List.getElem?_eq_getElem (by omega)]
 have:=hps.mem_iff.1 (List.getElem_mem (l:=ps) (n:=i) (by omega))
 simpa using this
theorem QS.next {b:List UInt8} {k:Nat} {ranks ps nexts:List Nat} (h:QS b k ranks) (hps:ps.Perm (List.range b.length)) (hs:Jw ranks k b.length ps) (hnl:nexts.length=b.length) (hn:∀ i,i<b.length→nexts.getD (ps.getD i 0) 0=dnP ranks ps k b.length i):QS b (max 1 (2*k)) nexts:=by
 have hl:ps.length=b.length:=by have:=hps.length_eq; simpa using this
 have hmm:max 1 (max 1 (2*k))=max 1 (2*k):=by omega
 refine ⟨hnl,fun x y hx hy => ?_⟩
 rw [hmm]
 have hsort:∀ i j,i<j→j<b.length→¬ QA b (max 1 (2*k)) (ps.getD j 0)<QA b (max 1 (2*k)) (ps.getD i 0):=fun i j hij hj=>by
  have:=List.pairwise_iff_getElem.1 hs i j (by omega) (by omega) hij
  have ei:ps.getD i 0=ps[i]'(by omega):=by rw [List.getD_eq_getElem?_getD,List.getElem?_eq_getElem (by omega)]; rfl
  have ej:ps.getD j 0=ps[j]'(by omega):=by rw [List.getD_eq_getElem?_getD,List.getElem?_eq_getElem (by omega)]; rfl
  rw [←ei,←ej] at this
  rwa [h.cmp (Uy hps hj) (Uy hps (by omega))] at this
 have hdn:∀ j,j<b.length→∀ i,i≤j→dnP ranks ps k b.length i≤dnP ranks ps k b.length j∧(dnP ranks ps k b.length i=dnP ranks ps k b.length j↔QA b (max 1 (2*k)) (ps.getD i 0)=QA b (max 1 (2*k)) (ps.getD j 0)):=by
  intro j
  induction j with
  | zero =>
   intro _ i hi
   have:i=0:=by omega
   subst this
   simp
  | succ j ih =>
   intro hj i hi
   by_cases e:i=j+1
   ·subst e; simp
   have hij:i≤j:=by omega
   obtain ⟨i1,i2⟩:=ih (by omega) i hij
   have hz:=h.zero (Uy hps (by omega:j<b.length)) (Uy hps hj)
   rw [dnP]
   by_cases hc:AdR ranks k b.length (ps.getD j 0) (ps.getD (j+1) 0)=0
   ·rw [if_pos hc,←hz.1 hc]
    exact ⟨by omega,by rw [←i2]; omega⟩
   ·rw [if_neg hc]
    refine ⟨by omega,⟨fun hh=>by omega,fun hh => ?_⟩⟩
    exfalso
    have hne:QA b (max 1 (2*k)) (ps.getD j 0)≠QA b (max 1 (2*k)) (ps.getD (j+1) 0):=fun e=>hc (hz.2 e)
    have hle:=hsort j (j+1) (by omega) hj
    rw [←hh] at hle hne
    by_cases e2:i=j
    ·subst e2; exact hne rfl
    ·exact hne (UV (hsort i j (by omega) (by omega)) hle)
 have hpos:∀ x,x<b.length→∃ i,i<b.length∧ps.getD i 0=x:=fun x hx=>by
  have hm:x∈ps:=hps.mem_iff.2 (by simpa using hx)
  obtain ⟨i,hi,e⟩:=List.getElem_of_mem hm
  exact ⟨i,by omega,by rw [List.getD_eq_getElem?_getD,List.getElem?_eq_getElem hi]; exact e⟩
 obtain ⟨i,hi,rfl⟩:=hpos x hx
 obtain ⟨j,hj,rfl⟩:=hpos y hy
 rw [hn i hi,hn j hj]
 rcases Nat.lt_trichotomy i j with hij | rfl | hij
 ·obtain ⟨d1,d2⟩:=hdn j hj i (by omega)
  constructor
  ·intro hlt
   have hne:QA b (max 1 (2*k)) (ps.getD i 0)≠QA b (max 1 (2*k)) (ps.getD j 0):=fun e=>by have:=d2.2 e; omega
   exact Classical.byContradiction fun hnl=>hne (UV hnl (hsort i j hij hj))
  ·intro hlt
   have:dnP ranks ps k b.length i≠dnP ranks ps k b.length j:=fun e=>by rw [d2.1 e] at hlt; exact List.lt_irrefl _ hlt
   omega
 ·exact ⟨fun h=>by omega,fun h=>absurd h (List.lt_irrefl _)⟩
 ·obtain ⟨d1,d2⟩:=hdn i hi j (by omega)
  exact ⟨fun h=>by omega,fun h=>absurd h (hsort j i hij hi)⟩
def Wj (b:List UInt8) (ps:List Nat):Prop:=ps.Pairwise fun x y=>¬ b.drop y<b.drop x
theorem QS.sorted {b:List UInt8} {k:Nat} {ranks ps:List Nat} (h:QS b k ranks) (hps:ps.Perm (List.range b.length)) (hs:Jw ranks k b.length ps) (hk:b.length≤k):Wj b ps:=by
 have hkey:∀ x,QA b (max 1 (2*k)) x=b.drop x:=fun x=>by unfold QA; exact List.take_of_length_le (by simp; omega)
 refine List.Pairwise.imp_of_mem (fun {x y} hx hy hxy => ?_) hs
 have hx':x<b.length:=by simpa using hps.mem_iff.1 hx
 have hy':y<b.length:=by simpa using hps.mem_iff.1 hy
 rw [h.cmp hy' hx',hkey,hkey] at hxy
 exact hxy
end
section
open Go.RowKit Go.Sort
variable [A7]
theorem Ac7:∀ {a b:List UInt8},Lib.compareBytes a b<0↔a<b
 | [],[]=>by simp [Lib.compareBytes]
 | [],_::_=>by simp [Lib.compareBytes]
 | _::_,[]=>by simp [Lib.compareBytes]
 | a::xs,b::ys=>by
  have ih:=Ac7 (a:=xs) (b:=ys)
  rw [Lib.compareBytes,List.cons_lt_cons_iff]
  by_cases h1:a<b
  ·simp [h1]
  ·by_cases h2:b<a
   ·have hne:a≠b:=fun e=>by subst e; exact h1 h2
    simp [h1,h2,hne]
   ·have he:a=b:=UInt8.le_antisymm (UInt8.not_lt.1 h2) (UInt8.not_lt.1 h1)
    rw [if_neg h1,if_neg h2,ih]
    simp [he]
theorem TN {x y:UInt8} {a b:List UInt8} (h:¬ x::a<y::b):y<x∨(x=y∧¬ a<b):=by
 rw [List.cons_lt_cons_iff] at h
 by_cases h1:y<x
 ·exact .inl h1
 ·by_cases h2:x<y
  ·exact absurd (.inl h2) h
  ·have he:x=y:=UInt8.le_antisymm (UInt8.not_lt.1 h1) (UInt8.not_lt.1 h2)
   exact .inr ⟨he,fun h3=>h (.inr ⟨he,h3⟩)⟩
theorem X0:∀ {a c d:List UInt8},¬ c<a→¬ d<c→lcp a d≤lcp c d
 | [],c,d,_,_=>by rw [AbD]; omega
 | x::a,[],d,h,_=>absurd (List.nil_lt_cons x a) h
 | x::a,y::c,[],_,h=>absurd (List.nil_lt_cons y c) h
 | x::a,y::c,z::d,h1,h2=>by
  rw [lcp,lcp]
  by_cases hxz:x=z
  ·subst hxz
   rcases TN h1 with h | ⟨rfl,h3⟩
   ·rcases TN h2 with h' | ⟨rfl,_⟩
    ·exact absurd (UInt8.lt_trans h h') (UInt8.lt_irrefl _)
    ·exact absurd h (UInt8.lt_irrefl _)
   ·rcases TN h2 with h' | ⟨_,h4⟩
    ·exact absurd h' (UInt8.lt_irrefl _)
    ·have:=X0 h3 h4
     simp only [if_true]; omega
  ·rw [if_neg hxz]; omega
theorem XB:∀ {b c d:List UInt8},¬ c<b→¬ d<c→lcp d b≤lcp c b
 | [],c,d,_,_=>by
  have:∀ l:List UInt8,lcp l []=0:=fun l=>by cases l<;>rfl
  rw [this]; omega
 | x::b,[],d,h,_=>absurd (List.nil_lt_cons x b) h
 | x::b,y::c,[],_,h=>absurd (List.nil_lt_cons y c) h
 | x::b,y::c,z::d,h1,h2=>by
  rw [lcp,lcp]
  by_cases hxz:z=x
  ·subst hxz
   rcases TN h1 with h | ⟨rfl,h3⟩
   ·rcases TN h2 with h' | ⟨rfl,_⟩
    ·exact absurd (UInt8.lt_trans h h') (UInt8.lt_irrefl _)
    ·exact absurd h (UInt8.lt_irrefl _)
   ·rcases TN h2 with h' | ⟨_,h4⟩
    ·exact absurd h' (UInt8.lt_irrefl _)
    ·have:=XB h3 h4
     simp only [if_true]; omega
  ·rw [if_neg hxz]; omega
theorem AcU:∀ {l m:List UInt8} {n:Nat},n≤l.length→n≤m.length→l.take n=m.take n→n≤lcp l m
 | _,_,0,_,_,_=>Nat.zero_le _
 | [],m,n+1,h,_,_=>by simp at h
 | x::l,[],n+1,_,h,_=>by simp at h
 | x::l,y::m,n+1,h1,h2,h=>by
  rw [List.take_succ_cons,List.take_succ_cons] at h
  injection h with e1 e2
  have:=AcU (l:=l) (m:=m) (n:=n) (by simpa using h1) (by simpa using h2) e2
  rw [lcp,if_pos e1]; omega
theorem WS (lt:Nat→Bool) (N:Nat) (hm:∀ h1 h2,h1≤h2→h2<N→lt h2=true→lt h1=true):∀ (f i j:Nat),i≤j→j≤N→j - i≤f→(∀ h,h<i→lt h=true)→(∀ h,j≤h→h<N→lt h=false)→(∀ h,h<bsI lt f i j→lt h=true)∧(∀ h,bsI lt f i j≤h→h<N→lt h=false)
 | 0,i,j,hij,hj,hf,h1,h2=>by
  have e:i=j:=by omega
  subst e
  rw [bsI]; exact ⟨h1,h2⟩
 | f+1,i,j,hij,hj,hf,h1,h2=>by
  rw [bsI]
  by_cases hlt:i<j
  ·rw [if_pos hlt]
   cases hc:lt ((i+j) / 2) with
   | true =>
    rw [if_pos rfl]
    exact WS lt N hm f _ _ (by omega) hj (by omega) (fun h hh=>hm h ((i+j) / 2) (by omega) (by omega) hc) h2
   | false =>
    rw [if_neg (by simp)]
    refine WS lt N hm f _ _ (by omega) (by omega) (by omega) h1 (fun h hh hN => ?_)
    cases hc2:lt h with
    | false=>rfl
    | true=>rw [hm ((i+j) / 2) h hh hN hc2] at hc; cases hc
  ·rw [if_neg hlt]
   have e:i=j:=by omega
   subst e; exact ⟨h1,h2⟩
theorem YT {base b:List UInt8} {ps:List Nat} (hs:Wj base ps) {h:Nat} (hh:h<ps.length):(∃ j,(j+1=bsI (ltP base b ps) ps.length 0 ps.length∨j=bsI (ltP base b ps) ps.length 0 ps.length)∧j<ps.length∧lcp (base.drop (ps.getD h 0)) b≤lcp (base.drop (ps.getD j 0)) b):=by
 have hle:∀ h1 h2,h1<h2→h2<ps.length→¬ base.drop (ps.getD h2 0)<base.drop (ps.getD h1 0):=fun h1 h2 h12 h2l=>by
  have:=List.pairwise_iff_getElem.1 hs h1 h2 (by omega) h2l h12
  have e1:ps.getD h1 0=ps[h1]'(by omega):=by rw [List.getD_eq_getElem?_getD,List.getElem?_eq_getElem (by omega)]; rfl
  have e2:ps.getD h2 0=ps[h2]'(by omega):=by rw [List.getD_eq_getElem?_getD,List.getElem?_eq_getElem (by omega)]; rfl
  rw [e1,e2]; exact this
 have hle2:∀ h1 h2,h1≤h2→h2<ps.length→¬ base.drop (ps.getD h2 0)<base.drop (ps.getD h1 0):=fun h1 h2 h12 h2l=>by
  by_cases e:h1=h2
  ·subst e; exact List.lt_irrefl _
  ·exact hle h1 h2 (by omega) h2l
 have hlt:∀ h,ltP base b ps h=true↔base.drop (ps.getD h 0)<b:=fun h=>by unfold ltP; rw [decide_eq_true_iff,Ac7]
 have hlf:∀ h,ltP base b ps h=false↔¬ base.drop (ps.getD h 0)<b:=fun h=>by rw [←hlt h]; simp
 obtain ⟨s1,s2⟩:=WS (ltP base b ps) ps.length (fun h1 h2 h12 h2l ht=>by
  rw [hlt] at ht ⊢
  by_cases hc:base.drop (ps.getD h1 0)<b
  ·exact hc
  ·exact absurd ht fun h3=>hle2 h1 h2 h12 h2l (by
    by_cases h4:b<base.drop (ps.getD h1 0)
    ·exact List.lt_trans h3 h4
    ·rw [UV hc h4]; exact h3)) ps.length 0 ps.length (Nat.zero_le _) (Nat.le_refl _) (by omega) (fun h hh=>by omega) (fun h h1 h2=>by omega)
 have hi:=ZY (ltP base b ps) ps.length 0 ps.length (Nat.zero_le _)
 generalize bsI (ltP base b ps) ps.length 0 ps.length=i at *
 by_cases hhi:h<i
 ·have hi1:=s1 (i - 1) (by omega)
  rw [hlt] at hi1
  exact ⟨i - 1,.inl (by omega),by omega,X0 (hle2 h (i - 1) (by omega) (by omega)) (fun h3=>List.lt_irrefl _ (List.lt_trans hi1 h3))⟩
 ·have hi1:=s2 i (Nat.le_refl _) (by omega)
  rw [hlf] at hi1
  exact ⟨i,.inr rfl,by omega,XB hi1 (hle2 i h (by omega) hh)⟩
end
section
open Go.RowKit
variable [A7]
def Yg (base:List UInt8) (fid:Nat) (H:List Ob):Prop :=
 (∃ (ps:List Nat) (k v cp:Nat),H[fid]?=some (.obj 0 (.agg [slB base,.os 1 k v [] 0 ps.length cp,.val (.map none)]))∧H[k]?=some (.obj v (.arr ps.length 1 (ps.map fun p:Nat=>i64 (p:Int))))∧(∀ p∈ps,p<base.length)∧ps.length≤1000000∧ps.Perm (List.range base.length)∧Wj base ps) ∨
 (∃ (mi:Nat) (es:List (List UInt8×TV)),H[fid]?=some (.obj 0 (.agg [slB base,.val (.slice none 0 0),.mp mi 0]))∧H[mi]?=some (.mpo (.arr 16) es)∧(∀ key v,OB key es=some v→∃ i:Nat,v=i64 (i:Int)∧i+16≤base.length)∧20000<base.length)
def Mat (base b:List UInt8) (a n:Nat):Prop:=a+n≤base.length∧n≤b.length∧(base.drop a).take n=b.take n
theorem Mat.lcp {base b:List UInt8} {a:Nat} (h:a≤base.length):Mat base b a (lcp (base.drop a) b):=by
 have h1:=Ahh (base.drop a) b
 rw [List.length_drop] at h1
 exact ⟨by omega,h1.2,Aae _ _⟩
theorem Mat.zero {base b:List UInt8}:Mat base b 0 0:=⟨by omega,by omega,by simp⟩
def AhL (base b:List UInt8) (n:Nat):Prop:=∀ a' n',Mat base b a' n'→n'≤n
def Ahb (base b:List UInt8) (ps:List Nat) (i x n:Nat):Prop:=(1≤x→∀ m,m+1=i→m<ps.length→lcp (base.drop (ps.getD m 0)) b≤n)∧(2≤x→i<ps.length→lcp (base.drop (ps.getD i 0)) b≤n)
theorem Ahb.step {base b:List UInt8} {ps:List Nat} {i x n n':Nat} {jv:Int} (h:Ahb base b ps i x n) (hj:(x=0∧jv=(i:Int) - 1)∨(x=1∧jv=(i:Int))) (hn:n≤n') (hm:∀ m:Nat,jv=(m:Int)→m<ps.length→lcp (base.drop (ps.getD m 0)) b≤n'):Ahb base b ps i (x+1) n':=by
 rcases hj with ⟨rfl,e⟩ | ⟨rfl,e⟩
 ·exact ⟨fun _ m h1 h2=>hm m (by omega) h2,fun h=>by omega⟩
 ·exact ⟨fun _ m h1 h2=>Nat.le_trans (h.1 (Nat.le_refl _) m h1 h2) hn,fun _ h2=>hm i e h2⟩
theorem Ahb.max {base b:List UInt8} {ps:List Nat} {n:Nat} (hp:ps.Perm (List.range base.length)) (hs:Wj base ps) (h:Ahb base b ps (bsI (ltP base b ps) ps.length 0 ps.length) 2 n):AhL base b n:=fun a' n' hM=>by
 obtain ⟨m1,m2,m3⟩:=hM
 by_cases h0:n'=0
 ·omega
 have ha:a'∈ps:=hp.mem_iff.2 (by simp; omega)
 obtain ⟨h',hh',e⟩:=List.getElem_of_mem ha
 have e2:ps.getD h' 0=a':=by rw [List.getD_eq_getElem?_getD,List.getElem?_eq_getElem hh']; exact e
 have hl:=AcU (l:=base.drop a') (m:=b) (n:=n') (by simp; omega) m2 m3
 obtain ⟨j,hj,hjl,hle⟩:=YT (b:=b) hs hh'
 rw [e2] at hle
 rcases hj with hj | hj
 ·have:=h.1 (by omega) j hj hjl; omega
 ·subst hj
  have:=h.2 (by omega) hjl; omega
theorem Afc {base b:List UInt8} (hbl:base.length≤1000000) (hb:b.length≤1000000) {fid:Nat} {H:List Ob} (hF:Yg base fid H) :
  Au Tryd.prog 15 [.op fid 0 [],slB b] H (fun x H'=>(∃ T,H'=H++T)∧∃ (a n:Nat),x = .tup [i64 (a:Int),i64 (n:Int)]∧Mat base b a n∧(base.length≤20000→AhL base b n)):=by
 refine Nq (by simp) ?_
 rcases hF with ⟨ps,k,v,cp,g1,g2,hps,hpl,hpm,hpo⟩ | ⟨mi,es,g1,g2,hes,hbig⟩
 ·have l1:=(List.getElem?_eq_some_iff.1 g1).1
  have l2:=(List.getElem?_eq_some_iff.1 g2).1
  have A0:∀ T:List Ob,(H++Ob.obj 0 (.op fid 0 [])::T)[H.length]?=some (.obj 0 (.op fid 0 [])):=fun T=>by simp
  have A1:∀ T:List Ob,(H++T)[fid]?=some (.obj 0 (.agg [slB base,.os 1 k v [] 0 ps.length cp,.val (.map none)])):=fun T=>by rw [List.getElem?_append_left l1]; exact g1
  have A2:∀ T:List Ob,(H++T)[k]?=some (.obj v (.arr ps.length 1 (ps.map fun p:Nat=>i64 (p:Int)))):=fun T=>by rw [List.getElem?_append_left l2]; exact g2
  have htk:(ps.map fun p:Nat=>i64 (p:Int)).take ps.length=ps.map fun p:Nat=>i64 (p:Int):=List.take_of_length_le (by simp)
  simp -dsimp (disch:=first | assumption | omega | (simp only [Af];try omega)) only [↓Ak,Ae,Ai,Aj,eq_self,Nat.reduceEqDiff,↓reduceIte,Nat.reduceAdd,reduceCtorEq,↓Dk,↓Cf,A0,A1,↓Cj,↓Jm]
  obtain ⟨HH,hHH⟩:∃ HH,HH=H++[Ob.obj 0 (.op fid 0 [])]:=⟨_,rfl⟩
  have B0:HH[H.length]?=some (.obj 0 (.op fid 0 [])):=by rw [hHH]; exact A0 _
  have B1:HH[fid]?=some (.obj 0 (.agg [slB base,.os 1 k v [] 0 ps.length cp,.val (.map none)])):=by rw [hHH]; exact A1 _
  have B2:HH[k]?=some (.obj v (.arr ps.length 1 (ps.map fun p:Nat=>i64 (p:Int)))):=by rw [hHH]; exact A2 _
  have hfz:AjH HH [.os 1 k v [] 0 ps.length cp,slB b,.fn (.func 27) [] [.op H.length 0 []]]=some [psT ps,slB b,.fn (.func 27) [] [Amw base (psT ps) (.val (.map none))]]:=by
   simp [AjH,Me,FK,ZX,B0,B1,B2,J5,DV,htk]
  rw [←hHH]
  refine OD ((Apt (b:=b) hps hpl hbl (x:=psT ps) (y := .val (.map none)) (by simp [CX]) rfl).lends hfz fun r hr => ?_)
  obtain ⟨z,rfl⟩:=hr
  refine ⟨rfl,?_⟩
  have hbs:=ZY (ltP base b ps) ps.length 0 ps.length (Nat.zero_le _)
  have hfinal:∀ n,Ahb base b ps (bsI (ltP base b ps) ps.length 0 ps.length) 2 n→AhL base b n:=fun n h=>Ahb.max hpm hpo h
  generalize bsI (ltP base b ps) ps.length 0 ps.length=i at *
  have hi1 : -9223372036854775808≤(i:Int) - ((1:Nat):Int):=by omega
  simp -dsimp (disch:=first | assumption | omega | (simp only [Af];try omega)) only [↓Ak,Ae,Ai,Aj,eq_self,Nat.reduceEqDiff,↓reduceIte,Nat.reduceLeDiff,↓Jp,↓Jl]
  obtain ⟨row,hrow⟩:∃ row,row=Ob.obj 0 (.arr 2 1 [i64 ((i:Int) - ((1:Nat):Int)),i64 (i:Int)]):=⟨_,rfl⟩
  refine KH (fun q e H2=>∃ (x a n:Nat) (T:List Ob),q=2 - x∧x≤2∧Mat base b a n∧Ahb base b ps i x n∧H2=HH++row::T ∧
   e=[(1,slB b),(2,.op H.length 0 []),(4,i64 (a:Int)),(5,i64 (n:Int)),(56,.os 1 HH.length 0 [] 0 2 2),(57,i64 ((2:Nat):Int)),(58,i64 (x:Int))]) 2 ?_ ?_
  ·exact ⟨0,0,0,[],rfl,by omega,Mat.zero,⟨fun h=>by omega,fun h=>by omega⟩,by rw [hrow]; rfl,rfl⟩
  rintro q e H2 ⟨x,a,n,T,rfl,hx,hM,hB,rfl,rfl⟩
  have C0:∀ T,(HH++T)[H.length]?=some (.obj 0 (.op fid 0 [])):=fun T=>by rw [List.getElem?_append_left (List.getElem?_eq_some_iff.1 B0).1]; exact B0
  have C1:∀ T,(HH++T)[fid]?=some (.obj 0 (.agg [slB base,.os 1 k v [] 0 ps.length cp,.val (.map none)])):=fun T=>by rw [List.getElem?_append_left (List.getElem?_eq_some_iff.1 B1).1]; exact B1
  have C2:∀ T,(HH++T)[k]?=some (.obj v (.arr ps.length 1 (ps.map fun p:Nat=>i64 (p:Int)))):=fun T=>by rw [List.getElem?_append_left (List.getElem?_eq_some_iff.1 B2).1]; exact B2
  have C3:(HH++row::T)[HH.length]?=some (.obj 0 (.arr 2 1 [i64 ((i:Int) - ((1:Nat):Int)),i64 (i:Int)])):=by rw [←hrow]; simp
  have hMn:=hM.2.1
  have hMa:=hM.1
  by_cases hx2:x<2
  case neg =>
   simp -dsimp (disch:=first | assumption | omega | (simp only [Af];try omega)) only [↓Ak,Ae,Ai,Aj,eq_self,Nat.reduceEqDiff,↓reduceIte,↓Bo,hx2,↓Bl,↓Jn,↓BV]
   exact ⟨⟨_,by rw [hHH,List.append_assoc]⟩,a,n,rfl,hM,fun _=>hfinal n (by rwa [show x=2 by omega] at hB)⟩
  obtain ⟨jv,hjv,hjr,hjx⟩:∃ jv:Int,[i64 ((i:Int) - ((1:Nat):Int)),i64 (i:Int)][x]?=some (i64 jv)∧(-1≤jv∧jv≤(i:Int))∧((x=0∧jv=(i:Int) - 1)∨(x=1∧jv=(i:Int))):=by
   rcases (by omega:x=0∨x=1) with h | h<;>subst h
   ·exact ⟨_,rfl,by omega,by omega⟩
   ·exact ⟨_,rfl,by omega,by omega⟩
  by_cases hneg:jv<0
  ·have hj0:¬ ((0:Nat):Int)≤jv:=by omega
   simp -dsimp (disch:=first | assumption | omega | (simp only [Af];try omega)) only [↓Ak,Ae,Ai,Aj,eq_self,Nat.reduceEqDiff,↓reduceIte,↓Bo,hx2,↓Bl,↓Cb,C3,hjv,↓CB,hj0,↓CG]
   exact Ba (2 - (x+1)) (by omega) (by simp) ⟨x+1,a,n,T,rfl,by omega,hM,hB.step hjx (Nat.le_refl _) (fun m e _=>by omega),rfl,rfl⟩
  obtain ⟨m,rfl⟩:=Int.eq_ofNat_of_zero_le (by omega:0≤jv)
  by_cases hml:m<ps.length
  case neg =>
   simp -dsimp (disch:=first | assumption | omega | (simp only [Af];try omega)) only [↓Ak,Ae,Ai,Aj,eq_self,Nat.reduceEqDiff,↓reduceIte,Nat.reduceAdd,↓Bo,hx2,↓Bl,↓Cb,C3,hjv,↓CB,C0,C1,hml,↓CG]
   exact Ba (2 - (x+1)) (by omega) (by simp) ⟨x+1,a,n,T,rfl,by omega,hM,hB.step hjx (Nat.le_refl _) (fun m2 e _=>by omega),rfl,rfl⟩
  obtain ⟨p,hg⟩:∃ p,ps[m]?=some p:=⟨_,List.getElem?_eq_getElem hml⟩
  have hp:=hps p (List.mem_of_getElem? hg)
  have hdl:(base.drop p).length=base.length - p:=List.length_drop
  simp -dsimp (disch:=first | assumption | omega | (simp only [Af];try omega)) only [↓Ak,Ae,Ai,Aj,eq_self,Nat.reduceEqDiff,↓reduceIte,Nat.reduceAdd,↓Bo,hx2,↓Bl,↓Cb,C3,hjv,↓CB,C0,C1,C2,hml,↓CG,↓Jv,hg]
  refine OD ((Abs (base.drop p) b (by omega) hb).calls (by simp [BZ,CX]) fun r hr => ?_)
  subst hr
  have hMl:=Mat.lcp (base:=base) (b:=b) (a:=p) (by omega)
  have hMl2:=hMl.2.1
  have hkk:∀ m2:Nat,(m:Int)=(m2:Int)→lcp (base.drop (ps.getD m2 0)) b=lcp (base.drop p) b:=fun m2 e=>by
   have:m2=m:=by omega
   subst this
   rw [List.getD_eq_getElem?_getD,hg]; rfl
  generalize lcp (base.drop p) b=kk at *
  by_cases hgt:n<kk
  ·simp -dsimp (disch:=first | assumption | omega | (simp only [Af];try omega)) only [↓Ak,Ae,Ai,Aj,eq_self,Nat.reduceEqDiff,↓reduceIte,Nat.reduceAdd,↓Ec,hgt,↓Jz,C0,C1,C2,hg]
   exact Ba (2 - (x+1)) (by omega) (by simp) ⟨x+1,p,kk,T,rfl,by omega,hMl,hB.step hjx (by omega) (fun m2 e _=>by rw [hkk m2 e]; omega),rfl,rfl⟩
  ·simp -dsimp (disch:=first | assumption | omega | (simp only [Af];try omega)) only [↓Ak,Ae,Ai,Aj,eq_self,Nat.reduceEqDiff,↓reduceIte,↓Ec,hgt]
   exact Ba (2 - (x+1)) (by omega) (by simp) ⟨x+1,a,n,T,rfl,by omega,hM,hB.step hjx (Nat.le_refl _) (fun m2 e _=>by rw [hkk m2 e]; omega),rfl,rfl⟩
 ·have l1:=(List.getElem?_eq_some_iff.1 g1).1
  have l2:=(List.getElem?_eq_some_iff.1 g2).1
  have A0:∀ T:List Ob,(H++Ob.obj 0 (.op fid 0 [])::T)[H.length]?=some (.obj 0 (.op fid 0 [])):=fun T=>by simp
  have A1:∀ T:List Ob,(H++T)[fid]?=some (.obj 0 (.agg [slB base,.val (.slice none 0 0),.mp mi 0])):=fun T=>by rw [List.getElem?_append_left l1]; exact g1
  have A2:∀ T:List Ob,(H++T)[mi]?=some (.mpo (.arr 16) es):=fun T=>by rw [List.getElem?_append_left l2]; exact g2
  by_cases h16:b.length<16
  ·simp -dsimp (disch:=first | assumption | omega | (simp only [Af];try omega)) only [↓Ak,Ae,Ai,Aj,eq_self,Nat.reduceEqDiff,↓reduceIte,Nat.reduceAdd,reduceCtorEq,↓Dk,↓Cf,A0,A1,↓Cj,↓Ed,h16,↓BV]
   exact ⟨⟨_,rfl⟩,0,0,rfl,Mat.zero,fun h=>by omega⟩
  have ht16:(b.take 16).length=16:=by rw [List.length_take]; omega
  simp -dsimp (disch:=first | assumption | omega | (simp only [Af];try omega)) only [↓Ak,Ae,Ai,Aj,eq_self,Nat.reduceLT,Nat.reduceEqDiff,↓reduceIte,Nat.reduceAdd,reduceCtorEq,↓Dk,↓Cf,A0,A1,↓Cj,↓Ed,h16,↓JR,A2]
  cases hg:OB (b.take 16) es with
  | none =>
   simp -dsimp (disch:=first | assumption | omega | (simp only [Af];try omega)) only [↓Ak,Ae,Ai,Aj,eq_self,Nat.reduceEqDiff,↓reduceIte,↓Ef,Option.isSome_none,↓BV]
   exact ⟨⟨_,rfl⟩,0,0,rfl,Mat.zero,fun h=>by omega⟩
  | some y =>
   obtain ⟨i,rfl,hi⟩:=hes _ _ hg
   have hdl:(base.drop i).length=base.length - i:=List.length_drop
   have hMl:=Mat.lcp (base:=base) (b:=b) (a:=i) (by omega)
   simp -dsimp (disch:=first | assumption | omega | (simp only [Af];try omega)) only [↓Ak,Ae,Ai,Aj,eq_self,Nat.reduceEqDiff,↓reduceIte,↓Ef,Option.isSome_some,A0,A1]
   refine OD ((Abs (base.drop i) b (by omega) hb).calls (by simp [BZ,CX]) fun r hr => ?_)
   subst hr
   simp -dsimp (disch:=first | assumption | omega | (simp only [Af];try omega)) only [↓Ak,Ae,Ai,Aj,eq_self,Nat.reduceEqDiff,↓reduceIte,↓BV]
   exact ⟨⟨_,rfl⟩,i,_,rfl,hMl,fun h=>by omega⟩
end
section
open Go.RowKit
variable [A7]
theorem AjX {k l:List UInt8} {x:TV}:∀ {es:List (List UInt8×TV)},OB k (UW l x es)=if l=k then some x else OB k es
 | []=>by simp [UW,OB]
 | (q,y)::es=>by
  rw [UW]
  by_cases hq:q=l
  ·subst hq
   rw [if_pos rfl,OB,OB]
   by_cases h:q=k<;>simp [h]
  ·rw [if_neg hq,OB,OB,AjX]
   by_cases h:q=k
   ·subst h; rw [if_pos rfl,if_neg (fun e=>hq e.symm),if_pos rfl]
   ·rw [if_neg h,if_neg h]
set_option maxRecDepth 100000 in
theorem AaU {base:List UInt8} (hb:base.length≤100000) {H:List Ob} {K:TV→List Ob→Prop} (hK:∀ H' fid,H.length≤H'.length→(∀ i,i<H.length→H'[i]?=H[i]?)→Yg base fid H'→K (.op fid 0 []) H') :
  Au Tryd.prog 13 [slB base] H K:=by
 refine Rl (by simp) ?_
 have A0:∀ (x:Ob) (T:List Ob),(H++x::T)[H.length]?=some x:=fun x T=>by simp
 by_cases hl:20000<base.length
 ·simp -dsimp (disch:=first | assumption | omega | (simp only [Af];try omega)) only [↓Ak,Ae,Ai,Aj,eq_self,Nat.reduceEqDiff,↓reduceIte,Nat.reduceAdd,reduceCtorEq,↓JE,↓FQ,↓GH,hl,↓GM,↓Oi,A0]
  rw [List.append_assoc]
  simp -dsimp (disch:=first | assumption | omega | (simp only [Af];try omega)) only [↓Ak,Ae,Ai,Aj,eq_self,Nat.reduceEqDiff,↓reduceIte,reduceCtorEq,↓Oj,↓Oh]
  refine KH (fun m e H2=>∃ (i:Nat) (es:List (List UInt8×TV)),m=base.length - i∧i≤base.length+16∧H2=H++[Ob.obj 0 (.agg [slB base,.val (.slice none 0 0),.mp (H.length+1) 0]),Ob.mpo (.arr 16) es]∧(∀ key v,OB key es=some v→∃ i:Nat,v=i64 (i:Int)∧i+16≤base.length) ∧
   e=[(0,slB base),(3,.op H.length 0 []),(4,i64 (i:Int))]) base.length ?_ ?_
  ·exact ⟨0,[],rfl,by omega,rfl,fun key v h=>by simp [OB] at h,rfl⟩
  rintro m e H2 ⟨i,es,rfl,hi,rfl,hes,rfl⟩
  have A1:∀ (x y:Ob) (T:List Ob),(H++x::y::T)[H.length+1]?=some y:=fun x y T=>by rw [List.getElem?_append_right (by omega),show H.length+1 - H.length=1 by omega]; rfl
  by_cases h16:i+16≤base.length
  ·have hdl:(base.drop i).length=base.length - i:=List.length_drop
   have ht16:((base.drop i).take 16).length=16:=by rw [List.length_take]; omega
   simp -dsimp (disch:=first | assumption | omega | (simp only [Af];try omega)) only [↓Ak,Ae,Ai,Aj,eq_self,Nat.reduceLT,Nat.reduceEqDiff,↓reduceIte,Nat.reduceAdd,reduceCtorEq,↓G8,h16,↓Om,A0,A1,hdl]
   refine Ba (base.length - (i+16)) (by omega) (by simp) ⟨i+16,_,rfl,by omega,rfl,fun key v hg => ?_,rfl⟩
   rw [AjX] at hg
   split at hg
   ·exact ⟨i,(Option.some.inj hg).symm,h16⟩
   ·exact hes key v hg
  ·have hfin:Yg base H.length (H++[Ob.obj 0 (.agg [slB base,.val (.slice none 0 0),.mp (H.length+1) 0]),Ob.mpo (.arr 16) es]) := .inr ⟨H.length+1,es,A0 _ _,A1 _ _ _,hes,hl⟩
   have:=hK _ _ (by simp) (fun j hj=>by rw [List.getElem?_append_left hj]) hfin
   simp -dsimp (disch:=first | assumption | omega | (simp only [Af];try omega)) only [↓Ak,Ae,Ai,Aj,eq_self,Nat.reduceEqDiff,↓reduceIte,reduceCtorEq,↓G8,h16,↓Ox,↓JH]
   exact this
 ·simp -dsimp (disch:=first | assumption | omega | (simp only [Af];try omega)) only [↓Ak,Ae,Ai,Aj,eq_self,Nat.reduceEqDiff,↓reduceIte,reduceCtorEq,↓JE,↓FQ,↓GH,hl,↓GM,↓Oz]
  refine OD (Aiy (by omega) (QS base) QS.start (fun k ranks ps nexts _ h1 h2 h3 h4 h5=>h1.next h2 h3 h4 h5) fun H' ps k ranks hlen hpre hps hR hsp hk ho => ?_)
  rw [List.length_append,List.length_singleton] at *
  have h0:H'[H.length]?=some (Ob.obj 0 (.agg [slB base,.val (.slice none 0 0),.val (.map none)])):=by rw [hpre _ (by omega)]; simp
  have hpl:ps.length=base.length:=by have:=hps.length_eq; simpa using this
  have hfin:Yg base H.length (H'.set H.length (Ob.obj 0 (.agg [slB base,.os 1 (H.length+1+1) 0 [] 0 base.length base.length,.val (.map none)]))):=by
   refine .inl ⟨ps,H.length+1+1,0,base.length,?_,?_,fun p hp=>by simpa using hps.mem_iff.1 hp,by omega,hps,hR.sorted hps hsp hk⟩
   ·rw [List.getElem?_set_self (by omega),hpl]
   ·rw [List.getElem?_set_ne (by omega),hpl]; exact ho
  have:=hK _ _ (by rw [List.length_set]; omega) (fun j hj=>by rw [List.getElem?_set_ne (by omega),hpre j (by omega),List.getElem?_append_left hj]) hfin
  simp -dsimp (disch:=first | assumption | omega | (simp only [Af];try omega)) only [↓Ak,Ae,Ai,Aj,eq_self,Nat.reduceEqDiff,↓reduceIte,Nat.reduceAdd,reduceCtorEq,h0,↓JH]
  exact this
end
section
open Go.RowKit
variable [A7]
theorem Aad:∀ (f g a n:Nat),n≤f→n≤g→cpB f a n=cpB g a n
 | 0,g,a,n,h1,h2=>by
  have:n=0:=by omega
  subst this
  cases g<;>simp [cpB]
 | f+1,0,a,n,h1,h2=>by
  have:n=0:=by omega
  subst this
  simp [cpB]
 | f+1,g+1,a,n,h1,h2=>by
  rw [cpB,cpB]
  by_cases hn:n=0
  ·rw [if_pos hn,if_pos hn]
  ·rw [if_neg hn,if_neg hn,Aad f g (a+min n 65535) (n - min n 65535) (by omega) (by omega)]
theorem AfG {q a k:Nat} (h0:0<q) (hk:k=min q 65535):cpB q a q=Ag8 a k++cpB (q - k) (a+k) (q - k):=by
 cases q with
 | zero=>omega
 | succ q' =>
  have h1:0<k:=by omega
  have h2:q'+1≠0:=by omega
  rw [cpB,if_neg h2,←hk]
  congr 1
  exact Aad q' (q'+1 - k) (a+k) (q'+1 - k) (by omega) (Nat.le_refl _)
def AhV (a k:Nat):List Nat:=[a,a / 2 ^ 8,a / 2 ^ 16,a / 2 ^ 24,k,k / 2 ^ 8]
theorem Ah1 (a k:Nat):cpN a k=(AhV a k).map (· % 256):=by unfold cpN AhV; rfl
theorem ZT:∀ (xs:List Nat) (x:Nat),nzM (xs++[x])=nzM xs+(if 0<x then 2 ^ xs.length else 0)
 | [],x=>by simp [nzM]
 | y::xs,x=>by
  rw [List.cons_append,nzM,nzM,ZT xs x,List.length_cons,Nat.pow_succ]
  split<;>split<;>omega
theorem AgO (xs:List Nat) (x:Nat):nzB (xs++[x])=nzB xs++(if 0<x then [UInt8.ofNat x] else []):=by
 unfold nzB
 rw [List.filter_append,List.map_append]
 by_cases h:0<x<;>simp [h]
set_option maxRecDepth 100000 in
theorem Akx:∀ i:Fin 6,∀ M:Fin 64,M.val<2 ^ i.val→(128+M.val) ||| 2 ^ i.val=128+M.val+2 ^ i.val:=by decide
theorem AoF {i M:Nat} (hi:i<6) (hM:M<2 ^ i):(128+M) ||| 2 ^ i=128+M+2 ^ i:=by
 have h64:M<64:=Nat.lt_of_lt_of_le hM (Nat.pow_le_pow_right (n:=2) (by omega) (by omega:i≤6))
 exact Akx ⟨i,hi⟩ ⟨M,h64⟩ hM
theorem Akl {t:TypeId} {k2:IntKind} {a b:Nat} (h2:b≤7) (h4:a*2 ^ b<256):Ei t .shl (.int .u8 (a:Int)) (.int k2 (b:Int))=some (.int .u8 ((a*2 ^ b:Nat):Int)):=by
 have e:binOp .shl t (.int .u8 (a:Int)) (.int k2 (b:Int))=pure (.int .u8 ((a*2 ^ b:Nat):Int)):=by
  show Op.shift .shl .u8 a k2 b=_
  unfold Op.shift
  rw [if_neg (by omega)]
  have hm:min ((b:Int)).toNat IntKind.u8.bits=b:=by
   have:IntKind.u8.bits=8:=rfl
   omega
  simp only [hm]
  have e2:(a:Int)*2 ^ b=((a*2 ^ b:Nat):Int):=by rw [Int.natCast_mul,Int.natCast_pow]; rfl
  rw [e2,IntKind.wrap_u8]
  congr 3; omega
 unfold Ei; rw [e]; rfl
theorem AgD {l:List UInt8} {a n:Nat} (ha:a+n≤1000000) (hl:l.length≤10000000) {id v cp:Nat} {H:List Ob} (hx:H[id]?=some (Vb v l)) {K:TV→List Ob→Prop}
  (hK:∀ H' v' cp',OE H H' id (Vb v' (l++cpB n a n))→K (.os 1 id v' [] 0 (l++cpB n a n).length cp') H'):Au Tryd.prog 17 [.os 1 id v [] 0 l.length cp,i64 (a:Int),i64 (n:Int)] H K:=by
 refine Q9 (by simp) ?_
 simp -dsimp (disch:=first | assumption | omega | (simp only [Af];try omega)) only [↓Ak,Ae,Ai,Aj,eq_self,Nat.reduceEqDiff,↓reduceIte,Nat.reduceAdd,reduceCtorEq,↓PX,↓MM]
 refine KH (fun q e H'=>∃ (a' v' cp':Nat) (l':List UInt8),a'+q=a+n∧l'.length≤l.length+8*(n - q)∧q≤n∧l'++cpB q a' q=l++cpB n a n∧OE H H' id (Vb v' l')∧e=[(0,.os 1 id v' [] 0 l'.length cp'),(1,i64 (a':Int)),(2,i64 (q:Int))]) n ?_ ?_
 ·exact ⟨a,v,cp,l,rfl,by omega,Nat.le_refl _,rfl,⟨hx,fun _ _ _=>rfl,Nat.le_refl _⟩,rfl⟩
 rintro q e H' ⟨a',v',cp',l',hq,hll,hqn,hlist,hG,rfl⟩
 have hidl:=(List.getElem?_eq_some_iff.1 hG.at').1
 have hHl:=hG.len
 have htk:(l'.map by8).take l'.length=l'.map by8:=List.take_of_length_le (by simp)
 have hat:=hG.at'
 by_cases h0:0<q
 case neg =>
  have hq0:q=0:=by omega
  subst hq0
  rw [cpB,List.append_nil] at hlist
  have hg:=hG
  rw [hlist] at hg
  have:=hK _ _ cp' hg
  rw [←hlist] at this
  simp -dsimp (disch:=first | assumption | omega | (simp only [Af];try omega)) only [↓Ak,Ae,Ai,Aj,eq_self,Nat.reduceLT,Nat.reduceEqDiff,↓reduceIte,reduceCtorEq,↓Di,↓LP,↓PS]
  exact this
 have hcpq:∀ k,k=min q 65535→cpB q a' q=Ag8 a' k++cpB (q - k) (a'+k) (q - k):=fun k hk=>AfG h0 hk
 have hmain:∀ k,k=min q 65535→vwp Tryd.prog DW (Blk 1 (Rnd H.length [0,1,2] (Blk 0 (Thn Tryd.prog DR (Vs Gj K)))
   (fun q e H'=>∃ (a' v' cp':Nat) (l':List UInt8),a'+q=a+n∧l'.length≤l.length+8*(n - q)∧q≤n∧l'++cpB q a' q=l++cpB n a n∧OE H H' id (Vb v' l')∧e=[(0,.os 1 id v' [] 0 l'.length cp'),(1,i64 (a':Int)),(2,i64 (q:Int))]) q))
   [(0,.os 1 id v' [] 0 l'.length cp'),(1,i64 (a':Int)),(2,i64 (q:Int)),(7,i64 (k:Int))] H':=by
  intro k hk
  have hk1:0<k:=by omega
  have hk2:k≤65535:=by omega
  have hkq:k≤q:=by omega
  rw [hcpq k hk,←List.append_assoc] at hlist
  have hb8:TV.val (.int .u8 ((128:Nat):Int))=by8 128:=rfl
  have hg0:=hG.snoc (v:=v') (l:=l') (m:=[128]) (T:=[Ob.obj 0 (TV.arr 1 1 [by8 128])])
  have hraw:TV.arr 6 1 [i64 (a':Int),i64 ((a' / 2 ^ 8:Nat):Int),i64 ((a' / 2 ^ 16:Nat):Int),i64 ((a' / 2 ^ 24:Nat):Int),i64 (k:Int),i64 ((k / 2 ^ 8:Nat):Int)] = .arr 6 1 ((AhV a' k).map fun x:Nat=>i64 (x:Int)):=rfl
  simp -dsimp (disch:=first | assumption | omega | (simp only [Af];try omega)) only [↓Ak,Ae,Ai,Aj,eq_self,Nat.reduceEqDiff,Nat.reducePow,↓reduceIte,reduceCtorEq,Nat.reduceLeDiff,↓MR,↓MO,↓NK,↓NL,hat,Rw,htk,hb8]
  rw [show TV.arr 6 1 [i64 (a':Int),TV.val (.int .i64 ((a' / 256:Nat):Int)),TV.val (.int .i64 ((a' / 65536:Nat):Int)),TV.val (.int .i64 ((a' / 16777216:Nat):Int)),i64 (k:Int),TV.val (.int .i64 ((k / 256:Nat):Int))] = .arr 6 1 ((AhV a' k).map fun x:Nat=>i64 (x:Int)) from rfl]
  refine KH (fun p e H2=>∃ (i v2:Nat) (xs:List Nat) (w:List UInt8),p=6 - i∧i≤6∧xs=(cpN a' k).take i∧w=l'++UInt8.ofNat (128+nzM xs)::nzB xs∧OE H H2 id (Vb v2 w)∧H'.length+1≤H2.length ∧
   e=[(0,.os 1 id v2 [] 0 w.length w.length),(1,i64 (a':Int)),(2,i64 (q:Int)),(7,i64 (k:Int)),(8,i64 (l'.length:Int)),(30,.arr 6 1 ((AhV a' k).map fun x:Nat=>i64 (x:Int))),(31,i64 (i:Int))]) 6 ?_ ?_
  ·exact ⟨0,v'+1,[],l'++[128],rfl,Nat.zero_le _,rfl,rfl,hg0,by simp,by rw [List.length_append]; rfl⟩
  rintro p e H2 ⟨i,v2,xs,w,rfl,hi,hxs,hw,hg2,hHl2,rfl⟩
  have hwl:w.length=l'.length+1+(nzB xs).length:=by rw [hw]; simp; omega
  have hid2:=(List.getElem?_eq_some_iff.1 hg2.at').1
  have hat2:=hg2.at'
  have hxl:xs.length=i:=by rw [hxs,List.length_take]; show min i 6=i; omega
  by_cases hi6:i<6
  ·obtain ⟨z,hz⟩:∃ z,(AhV a' k)[i]?=some z:=⟨_,List.getElem?_eq_getElem hi6⟩
   have hz64:z≤1000000:=by
    have:=List.mem_of_getElem? hz
    have q1:a' / 2 ^ 8≤a':=Nat.div_le_self _ _
    have q2:a' / 2 ^ 16≤a':=Nat.div_le_self _ _
    have q3:a' / 2 ^ 24≤a':=Nat.div_le_self _ _
    have q4:k / 2 ^ 8≤k:=Nat.div_le_self _ _
    simp only [AhV,List.mem_cons,List.not_mem_nil,or_false] at this
    omega
   have hcz:(cpN a' k)[i]?=some (z % 256):=by rw [Ah1,List.getElem?_map,hz]; rfl
   have hsucc:(cpN a' k).take (i+1)=xs++[z % 256]:=by rw [hxs,List.take_add_one,hcz]; rfl
   have hM:=ZP xs
   rw [hxl] at hM
   have hnm:=ZT xs (z % 256)
   have hnb:=AgO xs (z % 256)
   rw [hxl] at hnm
   have hand:∀ t,Ei t .and (.int .i64 (z:Int)) (.int .i64 ((255:Nat):Int))=some (.int .i64 ((z % 256:Nat):Int)):=fun t=>by
    rw [Afi (by omega) (by omega) (by omega) (by omega)]
    have e:=Nat.and_two_pow_sub_one_eq_mod z 8
    simp only [Int.toNat_natCast]
    rw [show (255:Nat)=2 ^ 8 - 1 from rfl,e]
   have hnl:(nzB xs).length≤i:=by rw [←hxl]; unfold nzB; rw [List.length_map]; exact List.length_filter_le _ _
   have h2i:2 ^ i≤32:=Nat.pow_le_pow_right (n:=2) (by omega) (by omega:i≤5)
   have hwat:w[l'.length]?=some (UInt8.ofNat (128+nzM xs)):=by rw [hw]; simp
   have hmu:∀ y,(w.map by8).set l'.length (by8 y)=(w.set l'.length y).map by8:=fun y=>by rw [List.map_set]
   have hset:∀ y,w.set l'.length y=l'++y::nzB xs:=fun y=>by rw [hw]; simp
   obtain ⟨b0,hb0⟩:∃ b0,b0=UInt8.ofNat (128+nzM xs):=⟨_,rfl⟩
   have hb0n:b0.toNat=128+nzM xs:=by rw [hb0,Vo (by omega)]
   rw [←hb0] at hwat
   have hshl:∀ t,Ei t .shl (.int .u8 ((1:Nat):Int)) (.int .i64 (i:Int))=some (.int .u8 ((2 ^ i:Nat):Int)):=fun t=>by rw [Akl (by omega) (by omega),Nat.one_mul]
   have hor:∀ t,Ei t .or (.int .u8 (b0.toNat:Int)) (.int .u8 ((2 ^ i:Nat):Int))=some (.int .u8 ((128+nzM xs+2 ^ i:Nat):Int)):=fun t=>by
    rw [hb0n,Aj3 (by omega) (by omega),AoF hi6 hM]
   have hb1:TV.val (.int .u8 ((128+nzM xs+2 ^ i:Nat):Int))=by8 (UInt8.ofNat (128+nzM xs+2 ^ i)):=by rw [Acp (by omega)]
   have hwset:w.set l'.length b0=w:=by rw [hset,hw,hb0]
   clear hw
   by_cases hz0:0<z % 256
   ·rw [if_pos hz0] at hnm hnb
    have htk2:∀ y,((w.set l'.length y).map by8).take w.length=(w.set l'.length y).map by8:=fun y=>List.take_of_length_le (by simp)
    simp -dsimp (disch:=first | assumption | omega | (simp only [Af];try omega)) only [↓Ak,Ae,Ai,Aj,eq_self,Nat.reduceEqDiff,↓reduceIte,reduceCtorEq,Nat.reduceLeDiff,↓Dz,hi6,↓DC,↓F9,↓FZ,hz,hand,hz0,↓Gp,↓ND,hat2,hwat,hshl,hor,hb1,hmu,Rw,hwl]
    have hz8:UInt8.ofNat (z % 256)=UInt8.ofNat z:=by apply UInt8.toNat_inj.1; simp
    have hg3:=hg2.snoc (v:=v2) (l:=w.set l'.length (UInt8.ofNat (128+nzM xs+2 ^ i))) (m:=[UInt8.ofNat z]) (T:=[Ob.obj 0 (TV.arr 1 1 [TV.val (Value.int IntKind.u8 ((UInt8.ofNat z).toNat:Int))])])
    have hw3:w.set l'.length (UInt8.ofNat (128+nzM xs+2 ^ i))++[UInt8.ofNat z]=l'++UInt8.ofNat (128+nzM (xs++[z % 256]))::nzB (xs++[z % 256]):=by
     rw [hset,hnm,hnb,hz8,Nat.add_assoc]; simp
    have hl3:(w.set l'.length (UInt8.ofNat (128+nzM xs+2 ^ i))++[UInt8.ofNat z]).length=l'.length+1+(nzB xs).length+1:=by simp; omega
    have hl4:(w.set l'.length (UInt8.ofNat (128+nzM xs+2 ^ i))).length=l'.length+1+(nzB xs).length:=by simp; omega
    rw [hl4] at hg3
    exact Ba (6 - (i+1)) (by omega) (by simp; omega) ⟨i+1,v2+1,xs++[z % 256],_,rfl,by omega,hsucc.symm,hw3,hg3,by simp; omega,by rw [hl3]; rfl⟩
   ·rw [if_neg hz0,Nat.add_zero] at hnm
    rw [if_neg hz0,List.append_nil] at hnb
    simp -dsimp (disch:=first | assumption | omega | (simp only [Af];try omega)) only [↓Ak,Ae,Ai,Aj,eq_self,Nat.reduceEqDiff,↓reduceIte,reduceCtorEq,↓Dz,hi6,↓DC,↓F9,↓FZ,hz,hand,hz0,↓Gp]
    exact Ba (6 - (i+1)) (by omega) (by omega) ⟨i+1,v2,xs++[z % 256],w,rfl,by omega,hsucc.symm,by rw [hnm,hnb,←hb0,←hset,hwset],hg2,hHl2,rfl⟩
  ·have hi66:i=6:=by omega
   subst hi66
   have hxs6:xs=cpN a' k:=by rw [hxs]; rfl
   have hop:w=l'++Ag8 a' k:=by rw [hw,hxs6]; rfl
   have hlist2:w++cpB (q - k) (a'+k) (q - k)=l++cpB n a n:=by rw [hop]; exact hlist
   have hnl:(nzB xs).length≤6:=by rw [←hxl]; unfold nzB; rw [List.length_map]; exact List.length_filter_le _ _
   clear hw hop
   simp -dsimp (disch:=first | assumption | omega | (simp only [Af];try omega)) only [↓Ak,Ae,Ai,Aj,eq_self,Nat.reduceLT,Nat.reduceEqDiff,↓reduceIte,reduceCtorEq,↓Dz,↓DC,↓NI]
   exact Ba (q - k) (by omega) (by omega) ⟨a'+k,v2,w.length,w,by omega,by omega,by omega,hlist2,hg2,rfl⟩
 by_cases hbig:65535<q
 ·have:=hmain 65535 (by omega)
  simp -dsimp (disch:=first | assumption | omega | (simp only [Af];try omega)) only [↓Ak,Ae,Ai,Aj,eq_self,Nat.reduceEqDiff,↓reduceIte,reduceCtorEq,↓Di,↓Fj,h0,hbig]
  exact this
 ·have:=hmain q (by omega)
  simp -dsimp (disch:=first | assumption | omega | (simp only [Af];try omega)) only [↓Ak,Ae,Ai,Aj,eq_self,Nat.reduceEqDiff,↓reduceIte,reduceCtorEq,↓Di,↓Fj,h0,hbig]
  exact this
end
section
variable [A7]
set_option maxRecDepth 100000
def Fz:Ad := .seq (.ops [so_ 2 (.box (.t 0)),so_ 3 (.box (.t 1)),po_ 4 (.mov (.c .nilFunc))] [2,3])
 (.seq (.seq (.ops [po_ 5 (.load false 1 (.t 3)),po_ 6 (.bin 3 .lss (.t 5) (ci_ 1))] [2,3,6])
 (.cond (.t 6)
 (.pops [po_ 7 (.iface 9 (.c (.string (str [99,97,110,110,111,116,32,98,101,32,108,101,115,115,32,116,104,97,110,32,49])))),⟨none,.s (.pan (.t 7)),none⟩] [2,3])
 (.skip)))
 (.seq (.ops [po_ 8 (.mkf (.func 38) [] [.t 2,.t 3]),mv_ 4 8] [4])
 (.ret)))
def FB:List VR:=[.tmp 4]
theorem LD:Tryd.f29.body.bind (trC Tryd.prog Tryd.f29.ntmps)=some (er Fz):=by kernel_rfl
theorem Lm:trR Tryd.prog Tryd.f29.results.toList=some FB:=by kernel_rfl
def JZ:=Ac Fz.eq_1
theorem JX {K:TV→Prop} {e:Env} {H:List Ob}:res FB e H K=res [.tmp 4] e H K:=Aa rfl
def LY:=(aI_ @JZ @JX)
def KR:=Sz 9 Tryd.func29 LD Lm rfl
def DI:Ad := .seq (.block 1 (.seq (.draw 1 [po_ 13 (.load false 1 (.t 2)),po_ 14 (.load false 1 (.t 1)),mv_ 15 4,po_ 16 (.slV 1 (.t 14) (some (.t 15)) none),po_ 17 (.lenV (.t 16)),po_ 18 (.min (.t 13) (.t 17)),mv_ 5 18] [0,1,2,4,5])
 (.seq (.ops [mv_ 19 0,po_ 20 (.load false 1 (.t 1)),mv_ 21 4,mv_ 22 4,mv_ 23 5,po_ 24 (.bin 3 .add (.t 22) (.t 23)),mv_ 25 4,mv_ 26 5,po_ 27 (.bin 3 .add (.t 25) (.t 26)),po_ 28 (.gen (.sl3 1) [.t 20,.t 21,.t 24,.t 27]),so_ 29 (.callv (.t 19) [.t 28]),po_ 30 (.un .not (.t 29))] [0,1,2,4,30])
 (.cond (.t 30)
 (.ret)
 (.skip)))))
 (.ops [mv_ 10 4,po_ 11 (.load false 1 (.t 2)),po_ 12 (.bin 3 .add (.t 10) (.t 11)),mv_ 4 12] [0,1,2,4])
def DF:Ad := .seq (.seq (.ops [mv_ 6 4,po_ 7 (.load false 1 (.t 1)),po_ 8 (.lenV (.t 7)),po_ 9 (.bin 3 .lss (.t 6) (.t 8))] [0,1,2,4,9])
 (.cond (.t 9)
 (.skip)
 (.exit 0)))
 DI
def DJ:Ad := .block 0 (.loop [0,1,2,4] DF)
def Es:Ad := .seq (.ops [po_ 4 (.mov (ci_ 0))] [0,1,2,4])
 DJ
def JU:List VR:=[]
theorem JW:Tryd.f38.body.bind (trC Tryd.prog Tryd.f38.ntmps)=some (er Es):=by kernel_rfl
theorem JS:trR Tryd.prog Tryd.f38.results.toList=some JU:=by kernel_rfl
def Dh:=Ac DI.eq_1
def BN:=Ac DF.eq_1
def Ha:=Ac DJ.eq_1
def Jq:=Ac Es.eq_1
def JF:=Sz 31 Tryd.func38 JW JS rfl
end
section
open Go.RowKit
variable [A7]
theorem AkW (s:List UInt8) (H:List Ob):Au Tryd.prog 29 [slB s,i64 ((127:Nat):Int)] H (fun x H'=>x = .fn (.func 38) [] [.op H.length 0 [],.op (H.length+1) 0 []]∧H'=H++[.obj 0 (slB s),.obj 0 (i64 ((127:Nat):Int))]):=by
 refine KR (by simp) ?_
 have g1:(H++[Ob.obj 0 (slB s)]++[.obj 0 (i64 ((127:Nat):Int))])[H.length+1]?=some (.obj 0 (i64 ((127:Nat):Int))):=by rw [List.getElem?_append_right (by simp)]; simp
 simp -dsimp (disch:=first | assumption | omega | (simp only [Af];try omega)) only [↓Ak,Ae,Ai,Aj,eq_self,Nat.reduceLT,Nat.reduceEqDiff,↓reduceIte,Nat.reduceAdd,reduceCtorEq,↓LY,g1]
 try simp
theorem Abf {own:List UInt8} (hown:own.length≤1000000) {I:Nat→List Ob→Prop} {id sid nid L:Nat} {H0:List Ob}
  (hI:∀ j H,I j H→L≤H.length∧H[sid]?=some (.obj 0 (slB own))∧H[nid]?=some (.obj 0 (i64 ((127:Nat):Int))))
  (hy:∀ j H,I j H→127*j<own.length→OH Tryd.prog id 0 [slB ((own.drop (127*j)).take 127)] H (fun y H'=>y = .val (.bool true)∧I (j+1) H'))
  (h0:I 0 H0) (hL:H0.length=L):Au Tryd.prog 38 [.yl id 0,.op sid 0 [],.op nid 0 []] H0 (fun _ H'=>∃ j,own.length≤127*j∧I j H'):=by
 refine JF (by simp) ?_
 simp -dsimp (disch:=first | assumption | omega | (simp only [Af];try omega)) only [↓Ak,Ae,Ai,Aj,eq_self,Nat.reduceEqDiff,↓reduceIte,Nat.reduceAdd,reduceCtorEq,↓Jq,↓Ha]
 refine KH (fun m e H=>∃ j,m=own.length - 127*j∧e=[(0,.yl id 0),(1,.op sid 0 []),(2,.op nid 0 []),(4,i64 ((127*j:Nat):Int))]∧127*j≤own.length+127∧I j H) own.length ?_ ?_
 ·exact ⟨0,rfl,rfl,by omega,h0⟩
 rintro m e H ⟨j,rfl,rfl,hj,hIj⟩
 obtain ⟨q1,q2,q3⟩:=hI j H hIj
 by_cases hlt:127*j<own.length
 case neg =>
  simp -dsimp (disch:=first | assumption | omega | (simp only [Af];try omega)) only [↓Ak,Ae,Ai,Aj,eq_self,Nat.reduceEqDiff,↓reduceIte,reduceCtorEq,↓BN,q2,hlt]
  exact ⟨by simp,j,by omega,hIj⟩
 have hdl:(own.drop (127*j)).length=own.length - 127*j:=List.length_drop
 by_cases hmin:own.length - 127*j<127
 ·simp -dsimp (disch:=first | assumption | omega | (simp only [Af];try omega)) only [↓Ak,Ae,Ai,Aj,eq_self,Nat.reduceEqDiff,↓reduceIte,reduceCtorEq,↓BN,q2,q3,hlt,hmin,↓Dh]
  have hd:(own.drop (127*j)).take 127=own.drop (127*j):=List.take_of_length_le (by omega)
  rw [←hd]
  refine OH.mono (hy j H hIj hlt) ?_
  rintro y H' ⟨rfl,hI'⟩
  obtain ⟨r1,r2,r3⟩:=hI _ H' hI'
  simp -dsimp (disch:=first | assumption | omega | (simp only [Af];try omega)) only [↓Ak,Ae,Ai,Aj,eq_self,Nat.reduceEqDiff,↓reduceIte,reduceCtorEq,r3]
  exact Ba (own.length - 127*(j+1)) (by omega) (by omega) ⟨j+1,rfl,by rw [Nat.mul_add]; rfl,by omega,hI'⟩
 ·simp -dsimp (disch:=first | assumption | omega | (simp only [Af];try omega)) only [↓Ak,Ae,Ai,Aj,eq_self,Nat.reduceEqDiff,↓reduceIte,reduceCtorEq,Nat.reduceLeDiff,↓BN,q2,q3,hlt,hmin,↓Dh]
  refine OH.mono (hy j H hIj hlt) ?_
  rintro y H' ⟨rfl,hI'⟩
  obtain ⟨r1,r2,r3⟩:=hI _ H' hI'
  simp -dsimp (disch:=first | assumption | omega | (simp only [Af];try omega)) only [↓Ak,Ae,Ai,Aj,eq_self,Nat.reduceEqDiff,↓reduceIte,reduceCtorEq,r3]
  exact Ba (own.length - 127*(j+1)) (by omega) (by omega) ⟨j+1,rfl,by rw [Nat.mul_add]; rfl,by omega,hI'⟩
theorem X8:∀ (f g:Nat) (l:List UInt8),l.length≤f→l.length≤g→ownB f l=ownB g l
 | 0,g,l,h1,h2=>by
  have:l=[]:=List.eq_nil_of_length_eq_zero (by omega)
  subst this
  cases g<;>simp [ownB]
 | f+1,0,l,h1,h2=>by
  have:l=[]:=List.eq_nil_of_length_eq_zero (by omega)
  subst this
  simp [ownB]
 | f+1,g+1,l,h1,h2=>by
  rw [ownB,ownB]
  by_cases hn:l=[]
  ·rw [if_pos hn,if_pos hn]
  ·have h0:0<l.length:=List.length_pos_iff.2 hn
   rw [if_neg hn,if_neg hn,X8 f g (l.drop 127) (by rw [List.length_drop]; omega) (by rw [List.length_drop]; omega)]
theorem Ab4 {own:List UInt8} {j:Nat} (h:127*j<own.length):ownB own.length (own.drop (127*j))=UInt8.ofNat ((own.drop (127*j)).take 127).length::((own.drop (127*j)).take 127++ownB own.length (own.drop (127*(j+1)))):=by
 have hl:(own.drop (127*j)).length=own.length - 127*j:=List.length_drop
 have hne:own.drop (127*j)≠[]:=fun e=>by rw [e] at hl; simp at hl; omega
 obtain ⟨f,hf⟩:∃ f,own.length=f+1:=⟨own.length - 1,by omega⟩
 have e2:(own.drop (127*j)).drop 127=own.drop (127*(j+1)):=by rw [List.drop_drop]; rfl
 rw [hf,ownB,if_neg hne,e2,X8 f (f+1) _ (by rw [List.length_drop]; omega) (by rw [List.length_drop]; omega),List.cons_append]
theorem AoZ {l own:List UInt8} (hown:own.length≤100000) (hl:l.length≤10000000) {id v cp:Nat} {H:List Ob} (hx:H[id]?=some (Vb v l)) {K:TV→List Ob→Prop}
  (hK:∀ H' v' cp',OE H H' id (Vb v' (l++ownB own.length own))→K (.os 1 id v' [] 0 (l++ownB own.length own).length cp') H'):Au Tryd.prog 16 [.os 1 id v [] 0 l.length cp,slB own] H K:=by
 refine RG (by simp) ?_
 have hidl:=(List.getElem?_eq_some_iff.1 hx).1
 simp -dsimp (disch:=first | assumption | omega | (simp only [Af];try omega)) only [↓Ak,Ae,Ai,Aj,eq_self,Nat.reduceEqDiff,↓reduceIte,Nat.reduceAdd,reduceCtorEq,↓QU,↓Ol]
 refine OD ((AkW own _).mono fun x H1 hx1 => ?_)
 obtain ⟨rfl,rfl⟩:=hx1
 simp -dsimp (disch:=first | assumption | omega | (simp only [Af];try omega)) only [↓Ak,Ae,Ai,Aj,eq_self,Nat.reduceEqDiff,↓reduceIte]
 refine AiI rfl (by kernel_rfl) rfl rfl ?_
 intro N fn ca cb hc
 have hlen1:(H++[Ob.obj 0 (.os 1 id v [] 0 l.length cp)]++[Ob.obj 0 (slB own),Ob.obj 0 (i64 ((127:Nat):Int))]).length=H.length+3:=by simp
 rw [hlen1]
 refine Au.mono (Abf (own:=own) (by omega) (id:=H.length+3) (sid:=H.length+1) (nid:=H.length+1+1) (L:=H.length+4)
  (I:=fun j H2=>H.length+4≤H2.length∧∃ (w:List UInt8) (v' cp':Nat),w++ownB own.length (own.drop (127*j))=l++ownB own.length own∧w.length≤l.length+128*j∧127*j≤own.length+127∧OE H H2 id (Vb v' w)∧H2[H.length]?=some (.obj 0 (.os 1 id v' [] 0 w.length cp')) ∧
   H2[H.length+1]?=some (.obj 0 (slB own))∧H2[H.length+1+1]?=some (.obj 0 (i64 ((127:Nat):Int)))∧H2[H.length+3]?=some (.lp .ready none fn N [(2,.op H.length 0 []),(4,.val (.slice none 0 0)),(7,.fn (.func 38) [] [.op (H.length+1) 0 [],.op (H.length+1+1) 0 []])] [8] ca cb)) ?_ ?_ ?_ ?_) ?_
 ·rintro j H2 ⟨h1,w,v',cp',h2,h3,hj,h4,h5,h6,h7,h8⟩
  exact ⟨h1,h6,h7⟩
 ·rintro j H2 ⟨h1,w,v',cp',h2,h3,hj,h4,h5,h6,h7,h8⟩ hlt
  refine Ab6 h8 hc rfl rfl rfl ?_
  have a0:=h4.at'
  simp -dsimp (disch:=first | assumption | omega | (simp only [Af];try omega)) only [↓Ak,Ae,Ai,Aj,eq_self,Nat.reduceEqDiff,↓reduceIte,↓Oo,YH,h8]
  have hcl:((own.drop (127*j)).take 127).length≤127:=by rw [List.length_take]; omega
  have hcb:=Ab4 hlt
  rw [hcb] at h2
  generalize (own.drop (127*j)).take 127=c at *
  obtain ⟨B,hB⟩:∃ B,B=Ob.lp .busy none fn N [(2,.op H.length 0 []),(4,.val (.slice none 0 0)),(7,.fn (.func 38) [] [.op (H.length+1) 0 [],.op (H.length+1+1) 0 []])] [8] ca cb:=⟨_,rfl⟩
  rw [←hB]
  have hidne:id≠H.length+3:=by omega
  obtain ⟨H3,hH3⟩:∃ H3,H3=H2.set (H.length+3) B:=⟨_,rfl⟩
  have hl3:H3.length=H2.length:=by rw [hH3,List.length_set]
  have c0:H3[H.length]?=some (.obj 0 (.os 1 id v' [] 0 w.length cp')):=by rw [hH3,List.getElem?_set_ne (by omega)]; exact h5
  have c1:H3[id]?=some (Vb v' w):=by rw [hH3,List.getElem?_set_ne (Ne.symm hidne)]; exact a0
  have hid3:id<H3.length:=by omega
  have c2:∀ X,(H3.set id X)[H.length]?=some (.obj 0 (.os 1 id v' [] 0 w.length cp')):=fun X=>by rw [List.getElem?_set_ne (by omega)]; exact c0
  have c3:∀ X,(H3.set id X)[id]?=some X:=fun X=>by rw [List.getElem?_set_self hid3]
  have htk:(w.map by8).take w.length=w.map by8:=List.take_of_length_le (by simp)
  rw [←hH3]
  simp -dsimp (disch:=first | assumption | omega | (simp only [Af];try omega)) only [↓Ak,Ae,Ai,Aj,eq_self,Nat.reduceEqDiff,↓reduceIte,Nat.reduceLeDiff,↓Ov,c0,c1,c2,c3,Rw,htk]
  have htk2:(w.map by8++[by8 (UInt8.ofNat c.length)]).take (w.length+1)=w.map by8++[by8 (UInt8.ofNat c.length)]:=List.take_of_length_le (by simp)
  rw [htk2]
  obtain ⟨X,hX⟩:∃ X,X=Ob.obj (v'+1+1) (.arr (w.length+1+c.length) 1 (w.map by8++[by8 (UInt8.ofNat c.length)]++c.map by8)):=⟨_,rfl⟩
  obtain ⟨Y,hY⟩:∃ Y,Y=Ob.obj 0 (.os 1 id (v'+1+1) [] 0 (w.length+1+c.length) (w.length+1+c.length)):=⟨_,rfl⟩
  obtain ⟨T,hT⟩:∃ T,T=[Ob.obj 0 (TV.arr 1 1 [by8 (UInt8.ofNat c.length)])]:=⟨_,rfl⟩
  show Agx _ _ _ _ _ ((H3.set id (Ob.obj (v'+1+1) (.arr (w.length+1+c.length) 1 (w.map by8++[by8 (UInt8.ofNat c.length)]++c.map by8)))).set H.length (Ob.obj 0 (.os 1 id (v'+1+1) [] 0 (w.length+1+c.length) (w.length+1+c.length)))++[Ob.obj 0 (TV.arr 1 1 [by8 (UInt8.ofNat c.length)])])
  rw [←hX,←hY,←hT]
  obtain ⟨Z,hZ⟩:∃ Z,Z=(H3.set id X).set H.length Y++T:=⟨_,rfl⟩
  rw [←hZ]
  have hZl:Z.length=H2.length+1:=by rw [hZ,hT]; simp [hl3]
  have z_at:∀ i,i<H2.length→Z[i]?=((H3.set id X).set H.length Y)[i]?:=fun i hi=>by rw [hZ,List.getElem?_append_left (by simp; omega)]
  have z3:Z[H.length+3]?=some B:=by
   rw [z_at _ (by omega),List.getElem?_set_ne (by omega),List.getElem?_set_ne hidne,hH3,List.getElem?_set_self (by omega)]
  have z0:Z[H.length]?=some Y:=by rw [z_at _ (by omega),List.getElem?_set_self (by simp; omega)]
  have zi:Z[id]?=some X:=by rw [z_at _ (by omega),List.getElem?_set_ne (by omega),List.getElem?_set_self hid3]
  have zo:∀ i,i<H2.length→i≠H.length→i≠id→i≠H.length+3→Z[i]?=H2[i]?:=fun i h1 h2 h3 h4=>by
   rw [z_at _ h1,List.getElem?_set_ne (Ne.symm h2),List.getElem?_set_ne (Ne.symm h3),hH3,List.getElem?_set_ne (Ne.symm h4)]
  clear hZ z_at c0 c1 c2 c3 hH3
  unfold Agx
  rw [z3,hB]
  refine ⟨Z.length,⟨by omega,by omega,.inl (Nat.le_refl _)⟩,rfl,?_⟩
  rw [List.take_of_length_le (by simp)]
  obtain ⟨Rd,hRd⟩:∃ Rd,Rd=Ob.lp .ready none fn N [(2,.op H.length 0 []),(4,.val (.slice none 0 0)),(7,.fn (.func 38) [] [.op (H.length+1) 0 [],.op (H.length+1+1) 0 []])] [8] ca cb:=⟨_,rfl⟩
  rw [←hRd]
  have hwm:X=Vb (v'+1+1) (w++UInt8.ofNat c.length::c):=by
   rw [hX,Vb]
   simp only [List.length_append,List.length_cons,List.map_append,List.map_cons,List.append_assoc,List.singleton_append]
   congr 2; omega
  have hwl2:(w++UInt8.ofNat c.length::c).length=w.length+1+c.length:=by simp; omega
  refine ⟨by simp; omega,w++UInt8.ofNat c.length::c,v'+1+1,w.length+1+c.length,by rw [List.append_assoc]; exact h2,by rw [hwl2]; omega,by omega,⟨?_,fun i q1 q2 => ?_,by simp; omega⟩,?_,?_,?_,?_⟩
  ·rw [List.getElem?_set_ne (Ne.symm hidne),zi,hwm]
  ·rw [List.getElem?_set_ne (by omega),zo i (by omega) (by omega) q2 (by omega)]; exact h4.low i q1 q2
  ·rw [List.getElem?_set_ne (by omega),z0,hY,hwl2]
  ·rw [List.getElem?_set_ne (by omega),zo _ (by omega) (by omega) (by omega) (by omega)]; exact h6
  ·rw [List.getElem?_set_ne (by omega),zo _ (by omega) (by omega) (by omega) (by omega)]; exact h7
  ·rw [List.getElem?_set_self (by omega)]
 ·refine ⟨by simp,l,v,cp,rfl,by omega,by omega,⟨?_,fun i q1 q2 => ?_,by simp⟩,?_,?_,?_,?_⟩
  ·rw [List.append_assoc,List.append_assoc,List.getElem?_append_left hidl]; exact hx
  ·rw [List.append_assoc,List.append_assoc,List.getElem?_append_left q1]
  ·simp
  ·simp
  ·rw [List.append_assoc,List.append_assoc,List.getElem?_append_right (by omega),show H.length+1+1 - H.length=2 by omega]; rfl
  ·simp
 ·simp
 ·rintro x H' ⟨j,hj,h1,w,v',cp',h2,h3,hj2,h4,h5,h6,h7,h8⟩
  have hd0:own.drop (127*j)=[]:=List.drop_of_length_le (by omega)
  have hnil:ownB own.length []=[]:=by cases own.length<;>simp [ownB]
  rw [hd0,hnil,List.append_nil] at h2
  unfold VG
  rw [h8]
  have g0:∀ X,(H'.set (H.length+3) X)[H.length]?=some (.obj 0 (.os 1 id v' [] 0 w.length cp')):=fun X=>by rw [List.getElem?_set_ne (by omega)]; exact h5
  have hg:∀ X,OE H (H'.set (H.length+3) X) id (Vb v' w):=fun X=>⟨by rw [List.getElem?_set_ne (by omega)]; exact h4.at',fun i q1 q2=>by rw [List.getElem?_set_ne (by omega)]; exact h4.low i q1 q2,by simp; omega⟩
  simp -dsimp (disch:=first | assumption | omega | (simp only [Af];try omega)) only [↓Ak,Ae,Ai,Aj,eq_self,↓reduceIte,↓Ou,g0,↓Q3]
  subst h2
  exact hK _ _ _ (hg _)
end
section
open Go.RowKit
variable [A7]
theorem Yg.keep {base:List UInt8} {fid:Nat} {H H':List Ob} (h:Yg base fid H) (hk:∀ i,i<H.length→H'[i]?=H[i]?):Yg base fid H':=by
 have e:∀ (i:Nat) (o:Ob),H[i]?=some o→H'[i]?=some o:=fun i o ho=>by rw [hk i (List.getElem?_eq_some_iff.1 ho).1]; exact ho
 rcases h with ⟨ps,k,v,cp,h1,h2,h3⟩ | ⟨mi,es,h1,h2,h3⟩
 ·exact .inl ⟨ps,k,v,cp,e _ _ h1,e _ _ h2,h3⟩
 ·exact .inr ⟨mi,es,e _ _ h1,e _ _ h2,h3⟩
set_option maxRecDepth 100000 in
theorem AmY {base target:List UInt8} (hb:base.length≤100000) (ht:target.length≤100000) (I:Nat→Nat→List UInt8→Prop) (hI0:I 0 0 (szB 4 base.length++szB 4 target.length))
  (hskip:∀ i own out a n,I i own out→own≤i→i<target.length→Mat base (target.drop i) a n→(base.length≤20000→AhL base (target.drop i) n)→n<8→I (i+1) own out)
  (hcopy:∀ i own out a n,I i own out→own≤i→i<target.length→Mat base (target.drop i) a n→(base.length≤20000→AhL base (target.drop i) n)→8≤n→I (i+n) (i+n) (out++ownB (i - own) ((target.drop own).take (i - own))++cpB n a n))
  (hbd:∀ i own out,I i own out→out.length≤1000000) :
  LK Tryd.prog 5 [slB base,slB target] (fun x=>∃ own out,I target.length own out∧own≤target.length∧x=slB (out++ownB (target.length - own) (target.drop own))):=by
 refine Au.toFreshV (Xh (by simp) ?_)
 have hmx:¬ 100000<base.length:=by omega
 have hmx2:¬ 100000<target.length:=by omega
 have key:vwp Tryd.prog IB (Vs OO fun x H'=>A8 (frs H' x) fun x=>∃ own out,I target.length own out∧own≤target.length∧x=slB (out++ownB (target.length - own) (target.drop own))) [(0,slB base),(1,slB target),(16,.val (.bool false))] []:=by
  simp -dsimp (disch:=first | assumption | omega | (simp only [Af];try omega)) only [↓Ak,Ae,Ai,Aj,eq_self,↓reduceIte,↓Sm]
  refine OD (AaU hb fun H1 fid _ _ hF => ?_)
  simp -dsimp (disch:=first | assumption | omega | (simp only [Af];try omega)) only [↓Ak,Ae,Ai,Aj,eq_self,Nat.reduceEqDiff,↓reduceIte,reduceCtorEq,↓SQ]
  refine OD (Zu (l:=[]) (n:=base.length) (id:=H1.length) (v:=0) (cp:=0) (by omega) (by simp) (.inr ⟨rfl,rfl,rfl⟩) fun H2 v2 hG2 => ?_)
  rw [List.nil_append] at hG2 ⊢
  have hz1:=YK 4 base.length
  have hz2:=YK 4 target.length
  simp -dsimp (disch:=first | assumption | omega | (simp only [Af];try omega)) only [↓Ak,Ae,Ai,Aj,eq_self,Nat.reduceEqDiff,↓reduceIte,reduceCtorEq]
  refine OD (Zu (l:=szB 4 base.length) (n:=target.length) (id:=H1.length) (v:=v2) (cp:=(szB 4 base.length).length) (by omega) (by omega) (.inl ⟨rfl,hG2.at'⟩) fun H3 v3 hG3 => ?_)
  have hlow:∀ i,i<H1.length→H3[i]?=H1[i]?:=fun i hi=>by
   rw [hG3.low i (by have:=hG2.len; omega) (by omega),hG2.low i hi (by omega)]
  have hat:=hG3.at'
  have hl31:H1.length<H3.length:=(List.getElem?_eq_some_iff.1 hat).1
  generalize hd0:szB 4 base.length++szB 4 target.length=d0 at *
  clear hG2 hG3
  simp -dsimp (disch:=first | assumption | omega | (simp only [Af];try omega)) only [↓Ak,Ae,Ai,Aj,eq_self,Nat.reduceEqDiff,↓reduceIte,reduceCtorEq,↓TP,↓TB,↓TF]
  refine KH (fun m e H4=>∃ (i own v cp:Nat) (out:List UInt8),m=target.length - i∧own≤i∧i≤target.length∧I i own out∧(∀ j,j<H1.length→H4[j]?=H1[j]?)∧H3.length≤H4.length∧H4[H1.length]?=some (Vb v out) ∧
   e=[(1,slB target),(5,.op fid 0 []),(6,.os 1 H1.length v [] 0 out.length cp),(7,i64 (own:Int)),(8,i64 (i:Int))]) target.length ?_ ?_
  ·exact ⟨0,0,v3,d0.length,d0,rfl,Nat.le_refl _,Nat.zero_le _,hI0,hlow,Nat.le_refl _,hat,by simp [forget,get]⟩
  rintro m e H4 ⟨i,own,v,cp,out,rfl,hoi,hi,hI,hlo,hle,ho,rfl⟩
  have hob:=hbd i own out hI
  have hF4:Yg base fid H4:=hF.keep hlo
  by_cases hit:i<target.length
  ·have hdl:(target.drop i).length=target.length - i:=List.length_drop
   simp -dsimp (disch:=first | assumption | omega | (simp only [Af];try omega)) only [↓Ak,Ae,Ai,Aj,eq_self,Nat.reduceEqDiff,↓reduceIte,↓Md,hit,↓TG]
   refine OD ((Afc (b:=target.drop i) (by omega) (by omega) hF4).mono fun x H5 hx => ?_)
   obtain ⟨⟨T,rfl⟩,a,n,rfl,hM,hX⟩:=hx
   have hn1:=hM.1
   have hn2:=hM.2.1
   by_cases hn8:n<8
   ·simp -dsimp (disch:=first | assumption | omega | (simp only [Af];try omega)) only [↓Ak,Ae,Ai,Aj,eq_self,Nat.reduceEqDiff,↓reduceIte,↓LX,hn8]
    have h4l:H1.length<H4.length:=(List.getElem?_eq_some_iff.1 ho).1
    exact Ba (target.length - (i+1)) (by omega) (by simp; omega) ⟨i+1,own,v,cp,out,rfl,by omega,by omega,hskip i own out a n hI hoi hit hM hX hn8,fun j hj=>by rw [List.getElem?_append_left (by omega)]; exact hlo j hj,by simp; omega,by rw [List.getElem?_append_left h4l]; exact ho,by simp [forget,get]⟩
   ·simp -dsimp (disch:=first | assumption | omega | (simp only [Af];try omega)) only [↓Ak,Ae,Ai,Aj,eq_self,Nat.reduceEqDiff,↓reduceIte,↓LX,hn8,↓TM]
    have h4l:H1.length<H4.length:=(List.getElem?_eq_some_iff.1 ho).1
    have hpl:((target.drop own).take (i - own)).length=i - own:=by simp; omega
    have hol:=Sl (i - own) ((target.drop own).take (i - own))
    have hnext:=hcopy i own out a n hI hoi hit hM hX (by omega)
    have hnb:=hbd _ _ _ hnext
    refine OD (AoZ (l:=out) (own:=(target.drop own).take (i - own)) (by omega) (by omega) (by rw [List.getElem?_append_left h4l]; exact ho) fun H5 v5 cp5 hG5 => ?_)
    rw [hpl] at hG5 ⊢
    have h5b:(out++ownB (i - own) ((target.drop own).take (i - own))).length≤10000000:=by simp only [List.length_append]; omega
    generalize out++ownB (i - own) ((target.drop own).take (i - own))=out5 at *
    simp -dsimp (disch:=first | assumption | omega | (simp only [Af];try omega)) only [↓Ak,Ae,Ai,Aj,eq_self,Nat.reduceEqDiff,↓reduceIte]
    have hG5a:=hG5.at'
    refine OD (AgD (l:=out5) (a:=a) (n:=n) (by omega) h5b hG5a fun H6 v6 cp6 hG6 => ?_)
    have hat6:=hG6.at'
    have hlo6:∀ j,j<H1.length→H6[j]?=H1[j]?:=fun j hj=>by
     have h5l:=hG5.len
     rw [List.length_append] at h5l
     rw [hG6.low j (by omega) (by omega),hG5.low j (by simp; omega) (by omega),List.getElem?_append_left (by omega)]; exact hlo j hj
    have hlen6:H3.length≤H6.length:=by
     have h5l:=hG5.len
     have h6l:=hG6.len
     rw [List.length_append] at h5l
     omega
    generalize out5++cpB n a n=out6 at *
    simp -dsimp (disch:=first | assumption | omega | (simp only [Af];try omega)) only [↓Ak,Ae,Ai,Aj,eq_self,Nat.reduceEqDiff,↓reduceIte]
    exact Ba (target.length - (i+n)) (by omega) (by omega) ⟨i+n,i+n,v6,cp6,out6,rfl,Nat.le_refl _,by omega,hnext,hlo6,hlen6,hat6,by simp [forget,get]⟩
  ·have hie:i=target.length:=by omega
   subst hie
   simp -dsimp (disch:=first | assumption | omega | (simp only [Af];try omega)) only [↓Ak,Ae,Ai,Aj,eq_self,Nat.reduceEqDiff,↓reduceIte,↓Md,hit,↓TL]
   have hdl:(target.drop own).length=target.length - own:=List.length_drop
   refine OD (AoZ (l:=out) (own:=target.drop own) (by omega) (by omega) ho fun H5 v5 cp5 hG5 => ?_)
   have ha:=hG5.at'
   rw [hdl] at ha ⊢
   have htk:((out++ownB (target.length - own) (target.drop own)).map by8).take (out++ownB (target.length - own) (target.drop own)).length=(out++ownB (target.length - own) (target.drop own)).map by8:=List.take_of_length_le (by simp)
   generalize hres:out++ownB (target.length - own) (target.drop own)=res at *
   simp -dsimp (disch:=first | assumption | omega | (simp only [Af];try omega)) only [↓Ak,Ae,Ai,Aj,eq_self,↓reduceIte,↓Vf,ha,htk]
   exact ⟨own,out,hI,hoi,by rw [hres]⟩
 by_cases hlt:base.length<target.length
 ·simp -dsimp (disch:=first | assumption | omega | (simp only [Af];try omega)) only [↓Ak,Ae,Ai,Aj,eq_self,Nat.reduceEqDiff,↓reduceIte,Nat.reduceAdd,reduceCtorEq,↓Qh,↓Kr,hlt,hmx2]
  exact key
 ·simp -dsimp (disch:=first | assumption | omega | (simp only [Af];try omega)) only [↓Ak,Ae,Ai,Aj,eq_self,Nat.reduceEqDiff,↓reduceIte,Nat.reduceAdd,reduceCtorEq,↓Qh,↓Kr,hlt,hmx]
  exact key
end
section
open Go.RowKit
variable [A7]
structure Amr (base target:List UInt8) (i own:Nat) (out:List UInt8):Prop where
 hoi:own≤i
 hi:i≤target.length
 ops:∃ ops,out=szB 4 base.length++(szB 4 target.length++ops)∧Ops base ops (target.take own)
 len:out.length≤6+own+own / 127
theorem Abl {l:List UInt8} {o i n:Nat} (h:o≤i):l.take (i+n)=l.take o++(l.drop o).take (i - o)++(l.drop i).take n:=by
 rw [List.take_add,show l.take i=l.take o++(l.drop o).take (i - o) by
  conv=>lhs; rw [show i=o+(i - o) by omega,List.take_add]]
theorem Amr.copy {base target:List UInt8} (hb:base.length≤100000) (ht:target.length≤100000) {i own a n:Nat} {out:List UInt8} (h:Amr base target i own out) (hM:Mat base (target.drop i) a n) (hn:8≤n) :
  Amr base target (i+n) (i+n) (out++ownB (i - own) ((target.drop own).take (i - own))++cpB n a n):=by
 obtain ⟨h1,h2,⟨ops,ho,hO⟩,h4⟩:=h
 obtain ⟨m1,m2,m3⟩:=hM
 rw [List.length_drop] at m2
 have hpl:((target.drop own).take (i - own)).length=i - own:=by simp; omega
 have hol:=Sl (i - own) ((target.drop own).take (i - own))
 have hcl:=Y9 n a n (Nat.le_refl _) (by omega)
 refine ⟨Nat.le_refl _,by omega,⟨ops++ownB (i - own) ((target.drop own).take (i - own))++cpB n a n,by rw [ho]; simp only [List.append_assoc],?_⟩,?_⟩
 ·rw [Abl h1,←m3]
  exact (hO.app (Ops.owns _ _ (by omega))).app (Ops.copies (by omega) n a n (Nat.le_refl _) m1)
 ·simp only [List.length_append]
  omega
end
section
open Go.RowKit
variable [A7]
def Lj (w:Nat→Nat):Nat→Nat→Nat
 | _,0=>0
 | i,n+1=>w i+Lj w (i+1) n
theorem NC {w:Nat→Nat}:∀ (p i q:Nat),Lj w i (p+q)=Lj w i p+Lj w (i+p) q
 | 0,i,q=>by rw [Nat.zero_add,Lj,Nat.zero_add,Nat.add_zero]
 | p+1,i,q=>by
  rw [show p+1+q=(p+q)+1 by omega,Lj,Lj,NC p (i+1) q,show i+1+p=i+(p+1) by omega]; omega
theorem ZB {w:Nat→Nat}:∀ {n i j:Nat},j<n→w (i+j)≤Lj w i n
 | 0,i,j,h=>by omega
 | n+1,i,0,h=>by rw [Lj]; simp
 | n+1,i,j+1,h=>by
  have:=ZB (w:=w) (n:=n) (i:=i+1) (j:=j) (by omega)
  rw [Lj,show i+(j+1)=i+1+j by omega]; omega
theorem We {w:Nat→Nat}:∀ {n i j:Nat},j+1<n→w (i+j)+w (i+(j+1))≤Lj w i n
 | 0,i,j,h=>by omega
 | n+1,i,0,h=>by
  have:=ZB (w:=w) (n:=n) (i:=i+1) (j:=0) (by omega)
  rw [Lj]; simp at this ⊢; omega
 | n+1,i,j+1,h=>by
  have:=We (w:=w) (n:=n) (i:=i+1) (j:=j) (by omega)
  rw [Lj,show i+(j+1)=i+1+j by omega,show i+(j+1+1)=i+1+(j+1) by omega]; omega
theorem S9 {w w':Nat→Nat}:∀ (n i:Nat),(∀ j,i≤j→j<i+n→w j=w' j)→Lj w i n=Lj w' i n
 | 0,i,h=>rfl
 | n+1,i,h=>by rw [Lj,Lj,h i (Nat.le_refl _) (by omega),S9 n (i+1) (fun j h1 h2=>h j (by omega) (by omega))]
structure Xj (base target:List UInt8) (lab w:Nat→Nat):Prop where
 own:∀ i,i<target.length→lab i=0→w i=2
 go:∀ i,i<target.length→2≤lab i→i+1<target.length∧lab (i+1)=lab i - 1
 next:∀ i,i<target.length→lab i≤1→i+1<target.length→lab (i+1)=0∨(32≤lab (i+1)∧w (i+1)=4)
 last:∀ i,i<target.length→lab i=1→w i=5
 tail:∀ i,i<target.length→2≤lab i→lab i≤7→w i=1
 mat:∀ i,i<target.length→0<lab i→∃ a,Mat base (target.drop i) a (lab i)
theorem Xj.at' {base target:List UInt8} {lab w:Nat→Nat} (h:Xj base target lab w):∀ (j i:Nat),i<target.length→j<lab i→i+j<target.length∧lab (i+j)=lab i - j
 | 0,i,hi,_=>⟨hi,rfl⟩
 | j+1,i,hi,hj=>by
  obtain ⟨h1,h2⟩:=h.go i hi (by omega)
  obtain ⟨h3,h4⟩:=h.at' j (i+1) h1 (by omega)
  rw [show i+(j+1)=i+1+j by omega]
  exact ⟨h3,by omega⟩
theorem Xj.pays {base target:List UInt8} {lab w:Nat→Nat} (h:Xj base target lab w) {i n:Nat} (hi:i<target.length) (hn:8≤n) (hin:i+n≤target.length) (hl:8≤lab i→lab i≤n):6≤Lj w i n∧(1≤lab i→lab i≤7→7≤Lj w i n):=by
 rcases (by omega:lab i=0∨(1≤lab i∧lab i≤7)∨8≤lab i) with h0 | ⟨h1,h7⟩ | h8
 ·refine ⟨?_,fun h=>by omega⟩
  have w0:=h.own i hi h0
  have e:n=(n - 3)+1+1+1:=by omega
  rw [e,Lj,Lj,Lj,w0]
  rcases h.next i hi (by omega) (by omega) with h1 | ⟨_,h1⟩
  ·have w1:=h.own (i+1) (by omega) h1
   rcases h.next (i+1) (by omega) (by omega) (by omega) with h2 | ⟨_,h2⟩
   ·have w2:=h.own (i+1+1) (by omega) h2
    omega
   ·omega
  ·omega
 ·obtain ⟨g1,g2⟩:=h.at' (lab i - 1) i hi (by omega)
  have w5:=h.last (i+(lab i - 1)) g1 (by omega)
  have hs:=We (w:=w) (n:=n) (i:=i) (j:=lab i - 1) (by omega)
  have e:i+(lab i - 1+1)=i+(lab i - 1)+1:=by omega
  rw [e] at hs
  have:2≤w (i+(lab i - 1)+1):=by
   rcases h.next (i+(lab i - 1)) g1 (by omega) (by omega) with h2 | ⟨_,h2⟩
   ·rw [h.own _ (by omega) h2]; omega
   ·omega
  exact ⟨by omega,fun _ _=>by omega⟩
 ·refine ⟨?_,fun _ h=>by omega⟩
  have hln:=hl h8
  obtain ⟨g1,g2⟩:=h.at' (lab i - 2) i hi (by omega)
  obtain ⟨k1,k2⟩:=h.at' (lab i - 1) i hi (by omega)
  have w5:=h.last _ k1 (by omega)
  have w1:=h.tail _ g1 (by omega) (by omega)
  have hs:=We (w:=w) (n:=n) (i:=i) (j:=lab i - 2) (by omega)
  rw [show lab i - 2+1=lab i - 1 by omega] at hs
  omega
def Aan (k:Nat):Nat:=k+(k+126) / 127
structure Ah5 (base target:List UInt8) (lab w:Nat→Nat) (B i own:Nat) (out:List UInt8):Prop where
 run:Amr base target i own out
 pot:out.length+Aan (i - own)+Lj w i (target.length - i)≤B+(if i<target.length∧1≤lab i∧lab i≤7∧0<i - own then 1 else 0)
 few:i<target.length→1≤lab i→lab i≤7→i - own+lab i≤7
theorem Ah5.skip {base target:List UInt8} {lab w:Nat→Nat} (hL:Xj base target lab w) {B i own n:Nat} {out:List UInt8} (h:Ah5 base target lab w B i own out) (hi:i<target.length) (hn:n<8) (hX:AhL base (target.drop i) n):Ah5 base target lab w B (i+1) own out:=by
 obtain ⟨⟨h1,h2,h3,h4⟩,hp,hf⟩:=h
 have hs:Lj w i (target.length - i)=w i+Lj w (i+1) (target.length - (i+1)):=by
  rw [show target.length - i=(target.length - (i+1))+1 by omega,Lj]
 rw [hs] at hp
 have hlab:lab i≤7:=by
  by_cases h0:lab i≤7
  ·exact h0
  ·obtain ⟨a,hM⟩:=hL.mat i hi (by omega)
   have:=hX a (lab i) hM
   omega
 have hk:i+1 - own=(i - own)+1:=by omega
 refine ⟨⟨by omega,by omega,h3,h4⟩,?_,?_⟩
 ·rw [hk]
  unfold Aan at hp ⊢
  rcases (by omega:lab i=0∨lab i=1∨2≤lab i) with h0 | h0 | h0
  ·rw [if_neg (by omega)] at hp
   have:=hL.own i hi h0
   have hd:∀ P:Prop,[Decidable P]→(0:Nat)≤(if P then 1 else 0):=fun _=>Nat.zero_le _
   have:=hd (i+1<target.length∧1≤lab (i+1)∧lab (i+1)≤7∧0<i - own+1)
   omega
  ·have:=hL.last i hi h0
   have hd:(if i<target.length∧1≤lab i∧lab i≤7∧0<i - own then 1 else 0)≤1:=by split<;>omega
   have hd2:0≤(if i+1<target.length∧1≤lab (i+1)∧lab (i+1)≤7∧0<i - own+1 then 1 else 0):=Nat.zero_le _
   omega
  ·obtain ⟨g1,g2⟩:=hL.go i hi h0
   have hw:=hL.tail i hi h0 hlab
   have hfew:=hf hi (by omega) hlab
   rw [if_pos ⟨g1,by omega,by omega,by omega⟩]
   by_cases hK:0<i - own
   ·rw [if_pos ⟨hi,by omega,hlab,hK⟩] at hp
    omega
   ·rw [if_neg (by omega)] at hp
    omega
 ·intro hi1 hl1 hl7
  rcases (by omega:lab i≤1∨2≤lab i) with h0 | h0
  ·rcases hL.next i hi h0 hi1 with h5 | ⟨h5,_⟩<;>omega
  ·obtain ⟨g1,g2⟩:=hL.go i hi h0
   have hfew:=hf hi (by omega) hlab
   omega
theorem Ah5.copy {base target:List UInt8} (hb:base.length≤20000) (ht:target.length≤100000) {lab w:Nat→Nat} (hL:Xj base target lab w) {B i own a n:Nat} {out:List UInt8} (h:Ah5 base target lab w B i own out) (hi:i<target.length) (hn:8≤n) (hM:Mat base (target.drop i) a n) (hX:AhL base (target.drop i) n) :
  Ah5 base target lab w B (i+n) (i+n) (out++ownB (i - own) ((target.drop own).take (i - own))++cpB n a n):=by
 have hrun:=h.run.copy (by omega) ht hM hn
 obtain ⟨⟨h1,h2,h3,h4⟩,hp,hf⟩:=h
 obtain ⟨m1,m2,m3⟩:=hM
 rw [List.length_drop] at m2
 have hpl:((target.drop own).take (i - own)).length=i - own:=by simp; omega
 have hol:=Sl (i - own) ((target.drop own).take (i - own))
 have hcl:=Y9 n a n (Nat.le_refl _) (by omega)
 obtain ⟨p1,p2⟩:=hL.pays hi hn (by omega) (fun h8=>by
  obtain ⟨a',hM'⟩:=hL.mat i hi (by omega)
  exact hX a' _ hM')
 have hs:Lj w i (target.length - i)=Lj w i n+Lj w (i+n) (target.length - (i+n)):=by
  rw [show target.length - i=n+(target.length - (i+n)) by omega,NC]
 rw [hs] at hp
 refine ⟨hrun,?_,fun h5 h6 h7=>by omega⟩
 rw [Nat.sub_self]
 simp only [List.length_append]
 have hd2:0≤(if i+n<target.length∧1≤lab (i+n)∧lab (i+n)≤7∧0<0 then 1 else 0):=Nat.zero_le _
 have hc0:Aan 0=0:=rfl
 unfold Aan at hp
 rw [hc0]
 by_cases hc:i<target.length∧1≤lab i∧lab i≤7∧0<i - own
 ·rw [if_pos hc] at hp
  have:=p2 hc.2.1 hc.2.2.1
  omega
 ·rw [if_neg hc] at hp
  omega
theorem Aar {base target:List UInt8} (hb:base.length≤20000) (ht:target.length≤100000) {lab w:Nat→Nat} (hL:Xj base target lab w):LK Tryd.prog 5 [slB base,slB target] (fun x=>∃ d,x=slB d∧Ah6 base target d∧d.length≤6+Lj w 0 target.length):=by
 have hz1:=ZH (f:=4) (n:=base.length) (by omega)
 have hz2:=ZH (f:=4) (n:=target.length) (by omega)
 refine (AmY (by omega) ht (Ah5 base target lab w (6+Lj w 0 target.length)) ⟨⟨Nat.le_refl _,Nat.zero_le _,⟨[],by simp,Ops.nil⟩,by simp; omega⟩,?_,?_⟩ ?_ ?_ ?_).mono ?_
 ·rw [if_neg (by omega)]
  simp only [List.length_append,Nat.sub_zero]
  have hc0:Aan 0=0:=rfl
  rw [hc0]; omega
 ·intro _ h1 h7; omega
 ·intro i own out a n h hoi hit hM hX hn
  exact h.skip hL hit hn (hX hb)
 ·intro i own out a n h hoi hit hM hX hn
  exact h.copy hb ht hL hit hn hM (hX hb)
 ·rintro i own out ⟨⟨h1,h2,h3,h4⟩,_,_⟩
  omega
 ·rintro x ⟨own,out,⟨⟨h1,h2,⟨ops,ho,hO⟩,h4⟩,hp,hf⟩,hol,rfl⟩
  have hlen:=Sl (target.length - own) (target.drop own)
  rw [List.length_drop] at hlen
  refine ⟨_,rfl,⟨⟨ops++ownB (target.length - own) (target.drop own),by rw [ho]; simp only [List.append_assoc],?_⟩,?_⟩,?_⟩
  ·have:=hO.app (Ops.owns (base:=base) (target.length - own) (target.drop own) (by simp))
   rwa [List.take_append_drop] at this
  ·rw [List.length_append]; omega
  ·rw [if_neg (by omega)] at hp
   unfold Aan at hp
   rw [Nat.sub_self,Lj] at hp
   rw [List.length_append]; omega
end
section
open Go.RowKit
variable [A7]
theorem Xj.nil {base:List UInt8}:Xj base [] (fun _=>0) (fun _=>0):=⟨fun i h=>by simp at h,fun i h=>by simp at h,fun i h=>by simp at h,fun i h=>by simp at h,fun i h=>by simp at h,fun i h=>by simp at h⟩
theorem Mat.more {base b x:List UInt8} {a r:Nat} (h:Mat base b a r):Mat base (b++x) a r:=⟨h.1,by rw [List.length_append]; have:=h.2.1; omega,by rw [List.take_append_of_le_length h.2.1]; exact h.2.2⟩
theorem Xj.more {base target:List UInt8} {lab w:Nat→Nat} (h:Xj base target lab w) (x:List UInt8):Xj base (target++x) (fun i=>if i<target.length then lab i else 0) (fun i=>if i<target.length then w i else 2):=by
 constructor
 ·intro i hi h0
  by_cases hl:i<target.length
  ·simp only [if_pos hl] at h0 ⊢; exact h.own i hl h0
  ·simp only [if_neg hl]
 ·intro i hi h2
  by_cases hl:i<target.length
  ·simp only [if_pos hl] at h2 ⊢
   obtain ⟨g1,g2⟩:=h.go i hl h2
   rw [if_pos g1,List.length_append]
   exact ⟨by omega,g2⟩
  ·simp only [if_neg hl] at h2; omega
 ·intro i hi h1 h3
  by_cases hl:i+1<target.length
  ·have hl2:i<target.length:=by omega
   simp only [if_pos hl2,if_pos hl] at h1 ⊢
   exact h.next i hl2 h1 hl
  ·simp only [if_neg hl]; exact .inl trivial
 ·intro i hi h1
  by_cases hl:i<target.length
  ·simp only [if_pos hl] at h1 ⊢; exact h.last i hl h1
  ·simp only [if_neg hl] at h1; omega
 ·intro i hi h1 h2
  by_cases hl:i<target.length
  ·simp only [if_pos hl] at h1 h2 ⊢; exact h.tail i hl h1 h2
  ·simp only [if_neg hl] at h1; omega
 ·intro i hi h1
  by_cases hl:i<target.length
  ·simp only [if_pos hl] at h1 ⊢
   obtain ⟨a,hM⟩:=h.mat i hl h1
   exact ⟨a,by rw [List.drop_append_of_le_length (by omega)]; exact hM.more⟩
  ·simp only [if_neg hl] at h1; omega
theorem Jt {w:Nat→Nat} {c:Nat}:∀ (n i:Nat),(∀ j,i≤j→j<i+n→w j=c)→Lj w i n=c*n
 | 0,i,h=>rfl
 | n+1,i,h=>by rw [Lj,h i (Nat.le_refl _) (by omega),Jt n (i+1) (fun j h1 h2=>h j (by omega) (by omega)),Nat.mul_succ]; omega
theorem Aac {target x:List UInt8} {w:Nat→Nat}:Lj (fun i=>if i<target.length then w i else 2) 0 (target++x).length=Lj w 0 target.length+2*x.length:=by
 rw [List.length_append,NC,Nat.zero_add]
 rw [S9 (w':=w) target.length 0 (fun j h1 h2=>if_pos (by omega)),Jt (c:=2) x.length target.length (fun j h1 h2=>if_neg (by omega))]
def pwU (n j:Nat):Nat:=if j=0 then 4 else if n - j=1 then 5 else if n - j≤7 then 1 else 0
theorem Xj.piece {base target:List UInt8} {lab w:Nat→Nat} (h:Xj base target lab w) {a n:Nat} (hn:32≤n) (ha:a+n≤base.length):Xj base (target++(base.drop a).take n) (fun i=>if i<target.length then lab i else n - (i - target.length)) (fun i=>if i<target.length then w i else pwU n (i - target.length)):=by
 have hpl:((base.drop a).take n).length=n:=by simp; omega
 constructor
 ·intro i hi h0
  rw [List.length_append,hpl] at hi
  by_cases hl:i<target.length
  ·simp only [if_pos hl] at h0 ⊢; exact h.own i hl h0
  ·simp only [if_neg hl] at h0; omega
 ·intro i hi h2
  rw [List.length_append,hpl] at hi ⊢
  by_cases hl:i<target.length
  ·simp only [if_pos hl] at h2 ⊢
   obtain ⟨g1,g2⟩:=h.go i hl h2
   rw [if_pos g1]
   exact ⟨by omega,g2⟩
  ·simp only [if_neg hl,if_neg (show ¬ i+1<target.length by omega)] at h2 ⊢; omega
 ·intro i hi h1 h3
  rw [List.length_append,hpl] at hi h3
  by_cases hl:i+1<target.length
  ·have hl2:i<target.length:=by omega
   simp only [if_pos hl2,if_pos hl] at h1 ⊢
   exact h.next i hl2 h1 hl
  ·by_cases hl2:i<target.length
   ·have e:i+1 - target.length=0:=by omega
    simp only [if_neg hl,e,Nat.sub_zero]
    exact .inr ⟨hn,rfl⟩
   ·simp only [if_neg hl2] at h1; omega
 ·intro i hi h1
  by_cases hl:i<target.length
  ·simp only [if_pos hl] at h1 ⊢; exact h.last i hl h1
  ·simp only [if_neg hl] at h1 ⊢
   unfold pwU; rw [if_neg (by omega),if_pos h1]
 ·intro i hi h1 h2
  by_cases hl:i<target.length
  ·simp only [if_pos hl] at h1 h2 ⊢; exact h.tail i hl h1 h2
  ·simp only [if_neg hl] at h1 h2 ⊢
   unfold pwU; rw [if_neg (by omega),if_neg (by omega),if_pos h2]
 ·intro i hi h1
  by_cases hl:i<target.length
  ·simp only [if_pos hl] at h1 ⊢
   obtain ⟨a',hM⟩:=h.mat i hl h1
   exact ⟨a',by rw [List.drop_append_of_le_length (by omega)]; exact hM.more⟩
  ·simp only [if_neg hl] at h1 ⊢
   refine ⟨a+(i - target.length),by omega,?_,?_⟩
   ·rw [List.length_drop,List.length_append,hpl]; omega
   ·rw [List.drop_append,show target.drop i=[] from List.drop_eq_nil_of_le (by omega),List.nil_append,List.drop_take,List.drop_drop,List.take_take,Nat.min_self]
theorem Acv {base target:List UInt8} {w:Nat→Nat} {a n:Nat} (hn:32≤n) (ha:a+n≤base.length):Lj (fun i=>if i<target.length then w i else pwU n (i - target.length)) 0 (target++(base.drop a).take n).length=Lj w 0 target.length+15:=by
 have hpl:((base.drop a).take n).length=n:=by simp; omega
 rw [List.length_append,hpl,NC,Nat.zero_add]
 rw [S9 (w':=w) target.length 0 (fun j h1 h2=>if_pos (by omega))]
 congr 1
 generalize target.length=L
 have hw:∀ j c,j<n→pwU n j=c→(if L+j<L then w (L+j) else pwU n (L+j - L))=c:=fun j c hj hc=>by
  rw [if_neg (by omega),show L+j - L=j by omega]; exact hc
 obtain ⟨k,rfl⟩:∃ k,n=1+(k+7):=⟨n - 8,by omega⟩
 rw [NC,NC]
 rw [Jt (c:=4) 1 L (fun j h1 h2=>by rw [if_neg (by omega),show j - L=0 by omega]; rfl)]
 rw [Jt (c:=0) k (L+1) (fun j h1 h2=>by rw [if_neg (by omega)]; unfold pwU; rw [if_neg (by omega),if_neg (by omega),if_neg (by omega)])]
 rw [show (7:Nat)=6+1 from rfl,NC]
 rw [Jt (c:=1) 6 (L+1+k) (fun j h1 h2=>by rw [if_neg (by omega)]; unfold pwU; rw [if_neg (by omega),if_neg (by omega),if_pos (by omega)])]
 rw [Jt (c:=5) 1 (L+1+k+6) (fun j h1 h2=>by rw [if_neg (by omega)]; unfold pwU; rw [if_neg (by omega),if_pos (by omega)])]
 omega
end
section
variable [A7]
set_option maxRecDepth 100000
def Jd:Ad := .seq (.ops [mv_ 102 7,mv_ 103 2,mv_ 104 10,po_ 105 (.idxA 3 (.t 103) (.t 104)),po_ 106 (.fieldA 2 2 (.t 105)),po_ 107 (.load false 1 (.t 106)),so_ 108 (.app 1 1 5 (.t 102) (.t 107)),mv_ 7 108] [0,2,7,8,9,10])
 (.seq (.ops [mv_ 109 8,mv_ 110 2,mv_ 111 10,po_ 112 (.idxA 3 (.t 110) (.t 111)),po_ 113 (.fieldA 2 2 (.t 112)),po_ 114 (.load false 1 (.t 113)),po_ 115 (.lenV (.t 114)),po_ 116 (.bin 3 .add (.t 109) (.t 115)),mv_ 8 116] [0,2,7,8,9,10])
 (.ops [mv_ 117 9,po_ 118 (.bin 3 .add (.t 117) (ci_ 1)),mv_ 9 118] [0,2,7,8,9,10]))
def IP:Ad := .seq (.ops [mv_ 94 7,mv_ 95 0,mv_ 96 12,mv_ 97 12,mv_ 98 11,po_ 99 (.bin 3 .add (.t 97) (.t 98)),po_ 100 (.slV 1 (.t 95) (some (.t 96)) (some (.t 99))),so_ 101 (.app 1 1 5 (.t 94) (.t 100)),mv_ 7 101] [0,2,7,8,9,10])
 Jd
def IR:Ad := .seq (.seq (.ops [mv_ 73 2,mv_ 74 10,po_ 75 (.idxA 3 (.t 73) (.t 74)),po_ 76 (.fieldA 2 2 (.t 75)),po_ 77 (.load false 1 (.t 76)),po_ 78 (.lenV (.t 77)),po_ 79 (.bin 3 .gtr (.t 78) (ci_ 20000)),mv_ 80 79,⟨some 81,.p (.mov (.t 7)),some ⟨80,false⟩⟩,⟨some 82,.p (.lenV (.t 81)),some ⟨80,false⟩⟩,⟨some 83,.p (.mov (.t 11)),some ⟨80,false⟩⟩,⟨some 84,.p (.bin 3 .add (.t 82) (.t 83)),some ⟨80,false⟩⟩,⟨some 85,.p (.mov (.t 2)),some ⟨80,false⟩⟩,⟨some 86,.p (.mov (.t 10)),some ⟨80,false⟩⟩,⟨some 87,.p (.idxA 3 (.t 85) (.t 86)),some ⟨80,false⟩⟩,⟨some 88,.p (.fieldA 2 2 (.t 87)),some ⟨80,false⟩⟩,⟨some 89,.p (.load false 1 (.t 88)),some ⟨80,false⟩⟩,⟨some 90,.p (.lenV (.t 89)),some ⟨80,false⟩⟩,⟨some 91,.p (.bin 3 .add (.t 84) (.t 90)),some ⟨80,false⟩⟩,⟨some 92,.p (.bin 3 .gtr (.t 91) (ci_ 40000)),some ⟨80,false⟩⟩,po_ 93 (.pick (.t 80) (.c (.bool true)) (.t 92))] [0,2,7,8,9,10,11,12,93])
 (.cond (.t 93)
 (.exit 0)
 (.skip)))
 IP
def Jc:Ad := .seq (.ops [mv_ 59 2,mv_ 60 10,po_ 61 (.idxA 3 (.t 59) (.t 60)),po_ 62 (.fieldA 0 0 (.t 61)),po_ 63 (.load false 1 (.t 62)),po_ 64 (.conv .u64 (.t 63)),mv_ 65 0,po_ 66 (.lenV (.t 65)),mv_ 67 11,po_ 68 (.bin 3 .sub (.t 66) (.t 67)),po_ 69 (.bin 3 .add (.t 68) (ci_ 1)),po_ 70 (.conv .u64 (.t 69)),po_ 71 (.bin 37 .rem (.t 64) (.t 70)),po_ 72 (.conv .i64 (.t 71)),mv_ 12 72] [0,2,7,8,9,10,11,12])
 IR
def IY:Ad := .seq (.block 1 (.seq (.ops [mv_ 46 2,mv_ 47 10,po_ 48 (.idxA 3 (.t 46) (.t 47)),po_ 49 (.fieldA 1 1 (.t 48)),po_ 50 (.load false 1 (.t 49)),po_ 51 (.conv .u64 (.t 50)),mv_ 52 0,po_ 53 (.lenV (.t 52)),po_ 54 (.bin 3 .sub (.t 53) (ci_ 31)),po_ 55 (.conv .u64 (.t 54)),po_ 56 (.bin 37 .rem (.t 51) (.t 55)),po_ 57 (.conv .i64 (.t 56)),po_ 58 (.bin 3 .add (ci_ 32) (.t 57)),mv_ 11 58] [0,2,7,8,9,10,11])
 Jc))
 (.ops [mv_ 44 10,po_ 45 (.bin 3 .add (.t 44) (ci_ 1)),mv_ 10 45] [0,2,7,8,9,10])
def IQ:Ad := .seq (.seq (.ops [mv_ 40 10,mv_ 41 2,po_ 42 (.lenV (.t 41)),po_ 43 (.bin 3 .lss (.t 40) (.t 42))] [0,2,7,8,9,10,43])
 (.cond (.t 43)
 (.skip)
 (.exit 0)))
 IY
def IU:Ad := .block 0 (.own 7 1 (.loop [0,2,7,8,9,10] IQ))
def Jk:Ad := .seq (.ops [mv_ 131 16,mv_ 132 131,⟨some 133,.p (.mov (.t 15)),some ⟨132,true⟩⟩,⟨some 134,.s (.call 12 [.t 133]),some ⟨132,true⟩⟩,⟨some 135,.p (.bin 34 .eql (.t 134) (ci_ 0)),some ⟨132,true⟩⟩,po_ 136 (.pick (.t 132) (.t 135) (.c (.bool false))),mv_ 137 136,⟨some 138,.p (.mov (.t 13)),some ⟨137,true⟩⟩,⟨some 139,.p (.lenV (.t 138)),some ⟨137,true⟩⟩,⟨some 140,.p (.mov (.t 9)),some ⟨137,true⟩⟩,⟨some 141,.p (.bin 3 .mul (ci_ 16) (.t 140)),some ⟨137,true⟩⟩,⟨some 142,.p (.bin 3 .add (ci_ 20) (.t 141)),some ⟨137,true⟩⟩,⟨some 143,.p (.mov (.t 8)),some ⟨137,true⟩⟩,⟨some 144,.p (.bin 3 .mul (ci_ 2) (.t 143)),some ⟨137,true⟩⟩,⟨some 145,.p (.bin 3 .add (.t 142) (.t 144)),some ⟨137,true⟩⟩,⟨some 146,.p (.bin 3 .leq (.t 139) (.t 145)),some ⟨137,true⟩⟩,po_ 147 (.pick (.t 137) (.t 146) (.c (.bool false))),mv_ 6 147] [6])
 (.ret)
def Jf:Ad := .seq (.ops [mv_ 128 14,mv_ 129 7,so_ 130 (.call 9 [.t 128,.t 129]),mv_ 16 130] [8,9,13,15,16])
 Jk
def Ic:Ad := .seq (.ops [mv_ 123 0,mv_ 124 13,so_ 125 (.call 8 [.t 123,.t 124]),mv_ 122 125,po_ 126 (.ext 0 (.t 122)),po_ 127 (.ext 1 (.t 122)),mv_ 14 126,mv_ 15 127] [7,8,9,13,14,15])
 Jf
def Eb:Ad := .seq (.ops [mv_ 119 0,mv_ 120 7,so_ 121 (.call 5 [.t 119,.t 120]),mv_ 13 121] [0,7,8,9,13])
 Ic
def IA:Ad := .seq (.seq (.ops [po_ 10 (.mov (ci_ 0))] [0,2,7,8,9,10])
 IU)
 Eb
def Iy:Ad := .seq (.ops [po_ 9 (.mov (ci_ 0))] [0,2,7,8,9])
 IA
def Ib:Ad := .seq (.ops [mv_ 38 1,po_ 39 (.lenV (.t 38)),mv_ 8 39] [0,2,7,8])
 Iy
def Iw:Ad := .seq (.ops [mv_ 35 7,mv_ 36 1,so_ 37 (.app 1 1 5 (.t 35) (.t 36)),mv_ 7 37] [0,1,2,7])
 Ib
def Ig:Ad := .seq (.ops [po_ 7 (.mov (.c (.slice none 0 0)))] [0,1,2,7])
 Iw
def Ik:Ad := .seq (.seq (.ops [mv_ 17 0,po_ 18 (.lenV (.t 17)),po_ 19 (.bin 3 .gtr (.t 18) (ci_ 20000)),mv_ 20 19,⟨some 21,.p (.mov (.t 0)),some ⟨20,false⟩⟩,⟨some 22,.p (.lenV (.t 21)),some ⟨20,false⟩⟩,⟨some 23,.p (.bin 3 .lss (.t 22) (ci_ 32)),some ⟨20,false⟩⟩,po_ 24 (.pick (.t 20) (.c (.bool true)) (.t 23)),mv_ 25 24,⟨some 26,.p (.mov (.t 1)),some ⟨25,false⟩⟩,⟨some 27,.p (.lenV (.t 26)),some ⟨25,false⟩⟩,⟨some 28,.p (.bin 3 .gtr (.t 27) (ci_ 20000)),some ⟨25,false⟩⟩,po_ 29 (.pick (.t 25) (.c (.bool true)) (.t 28)),mv_ 30 29,⟨some 31,.p (.mov (.t 2)),some ⟨30,false⟩⟩,⟨some 32,.p (.lenV (.t 31)),some ⟨30,false⟩⟩,⟨some 33,.p (.bin 3 .gtr (.t 32) (ci_ 1000)),some ⟨30,false⟩⟩,po_ 34 (.pick (.t 30) (.c (.bool true)) (.t 33))] [0,1,2,34])
 (.cond (.t 34)
 (.seq (.ops [po_ 6 (.mov (.c (.bool true)))] [6])
  (.ret))
 (.skip)))
 Ig
def Nc:Ad := .seq (.ops [po_ 6 (.mov (.c (.bool false)))] [0,1,2])
 Ik
def He:List VR:=[.tmp 6]
theorem Td:Tryd.f4.body.bind (trC Tryd.prog Tryd.f4.ntmps)=some (er Nc):=by kernel_rfl
theorem Tt:trR Tryd.prog Tryd.f4.results.toList=some He:=by kernel_rfl
def Gz:=Ac Jd.eq_1
def G5:=Ac IP.eq_1
def CP:=Ac IR.eq_1
def GZ:=Ac Jc.eq_1
def Gx:=Ac IY.eq_1
def DU:=Ac IQ.eq_1
def Gw:=Ac IU.eq_1
def Gv:=Ac Jk.eq_1
def G6:=Ac Jf.eq_1
def F7:=Ac Ic.eq_1
def Gf:=Ac Eb.eq_1
def Gm:=Ac IA.eq_1
def Gg:=Ac Iy.eq_1
def FT:=Ac Ib.eq_1
def Gu:=Ac Iw.eq_1
def FY:=Ac Ig.eq_1
def FO:=Ac Ik.eq_1
def JP:=Ac Nc.eq_1
theorem JI {K:TV→Prop} {e:Env} {H:List Ob}:res He e H K=res [.tmp 6] e H K:=Aa rfl
def En:=(aI_ (aI_ (aI_ (aI_ (aI_ @Gz @G5) (aI_ @CP @GZ)) (aI_ (aI_ @Gx @DU) (aI_ @Gw @Gv))) (aI_ (aI_ (aI_ @G6 @F7) (aI_ @Gf @Gm)) (aI_ (aI_ @Gg @FT) (aI_ @Gu @FY)))) (aI_ (aI_ @FO @JP) @JI))
def Su:=Sz 148 Tryd.func4 Td Tt rfl
end
end Go.Proofs.YthlbcfmbldcngaaDoor
