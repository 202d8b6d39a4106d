/- WireOffersUptoCard: the law, proved out of contracts of the functions that it reaches (texts merged; names shortened by a program). No condition is laid on it. -/
import Derived.Test.YtnikbdnebdmmiaaGreatDoorQF
import Derived.Test.YtnikbdnebdmmiaaGreatDoorQE
import Derived.Test.YtnikbdnebdmmiaaGreatDoorProg
import Derived.KernelRfl
import Derived.Lib.Strings
import Derived.SevenTiedAt
import Derived.Test.YtnikbdnebdmmiaaGreatDoorCards
import Derived.Test.YtnikbdnebdmmiaaGreatDoorTie
import Derived.Test.YtnikbdnebdmmiaaGreatDoorRows
import Derived.WalkKit
import Derived.ProofKit
import Derived.OpenShut
import Derived.ShutString
import Derived.ChangeOld
import Derived.Below
import Derived.SizedLaws
import Derived.ChangeVars
import Derived.LaidLaws
import Derived.LaidHandle
import Derived.Stop.Joined
import Derived.Stop.LaidErr
import Derived.ClosedOfChecked
import Derived.Deep.DeepHandedRow
import Derived.JoinedCond
set_option linter.defProp false
set_option linter.unusedSectionVars false
set_option linter.unusedSimpArgs false
set_option linter.unusedVariables false
namespace Go.Proofs.YtnikbdnebdmmiaaGreatDoor
section
open Go.RowKit
variable [AAE]
theorem ABm {q:Prop} (h:¬ q) (b:Bool) (hb:b=false):(b=true↔q):=by subst hb; simp [h]
theorem ATe {q:Prop} (h:q) (b:Bool) (hb:b=true):(b=true↔q):=by subst hb; simp [h]
theorem AUs (p:List UInt8):(ABN p=false∧(p=[]∨∃ c l,p=c::l∧(c=46∨(c≠46∧Lib.hasSuffix p [46,108,111,99,107]=true))))∨(ABN p=true∧∃ c l,p=c::l∧c≠46∧Lib.hasSuffix p [46,108,111,99,107]=false):=by
 cases p with
 | nil=>left; exact ⟨by unfold ABN; simp,.inl rfl⟩
 | cons c l =>
  by_cases h1:c=46
  ·left; subst h1; exact ⟨by unfold ABN; simp,.inr ⟨_,_,rfl,.inl rfl⟩⟩
  ·cases h2:Lib.hasSuffix (c::l) [46,108,111,99,107] with
   | true =>
    left
    have:=(ASn _).1 h2
    exact ⟨by unfold ABN; rw [decide_eq_false_iff_not]; exact fun h=>h.2.2 this,.inr ⟨_,_,rfl,.inr ⟨h1,rfl⟩⟩⟩
   | false =>
    right
    have:¬ (5≤(c::l).length∧(c::l).drop ((c::l).length - 5)=[46,108,111,99,107]):=fun h=>by rw [(ASn _).2 h] at h2; cases h2
    exact ⟨by unfold ABN; rw [decide_eq_true_eq]; exact ⟨by simp,by simpa using h1,this⟩,_,_,rfl,h1,rfl⟩
theorem AXQ [ADH] (s:List UInt8) (hs:s.length≤4000000):AAR Tryz.prog 40 [ts s] (fun x=>∃ b,x=tb b∧(b=true↔A0M s)):=by
 refine AAs.toPureV (ATB (by simp) ?_)
 by_cases h0:s=[72,69,65,68]
 ·subst h0
  simp -dsimp (disch:=first | assumption | omega) only [↓AAp,AAk,AAn,AAo,eq_self,Nat.reduceEqDiff,↓reduceIte,reduceCtorEq,↓AAA]
  exact ⟨_,rfl,ATe (.inl rfl) _ rfl⟩
 by_cases h1:60<s.length
 ·simp -dsimp (disch:=first | assumption | omega) only [↓AAp,AAk,AAn,AAo,eq_self,Nat.reduceEqDiff,↓reduceIte,reduceCtorEq,↓AAA,h0,AAD]
  exact ⟨_,rfl,ABm (fun h=>h.elim h0 fun h=>by omega) _ rfl⟩
 simp -dsimp (disch:=first | assumption | omega) only [↓AAp,AAk,AAn,AAo,eq_self,Nat.reduceEqDiff,↓reduceIte,reduceCtorEq,↓AAA,h0,AAD]
 refine (A0I s _).calls rfl ?_
 rintro _ rfl
 cases h2:Lib.hasPrefix s [114,101,102,115,47] with
 | false =>
  simp -dsimp (disch:=first | assumption | omega) only [↓AAp,AAk,AAn,AAo,eq_self,Nat.reduceEqDiff,↓reduceIte,reduceCtorEq,↓AAA]
  refine ⟨_,rfl,ABm (fun h=>h.elim h0 fun h => ?_) _ rfl⟩
  rw [(ASv s).2 h.2.1] at h2; cases h2
 | true =>
 have h2':=(ASv s).1 h2
 simp -dsimp (disch:=first | assumption | omega) only [↓AAp,AAk,AAn,AAo,eq_self,Nat.reduceEqDiff,↓reduceIte,reduceCtorEq]
 refine (AH5 s [46] (by omega)).calls rfl ?_
 rintro _ rfl
 cases h3:Lib.hasSuffix s [46] with
 | true =>
  simp -dsimp (disch:=first | assumption | omega) only [↓AAp,AAk,AAn,AAo,eq_self,Nat.reduceEqDiff,↓reduceIte,reduceCtorEq,↓AAA]
  exact ⟨_,rfl,ABm (fun h=>h.elim h0 fun h=>h.2.2.1 ((AUH s 46).1 h3)) _ rfl⟩
 | false =>
 have h3':s[s.length - 1]?≠some 46:=fun h=>by rw [(AUH s 46).2 h] at h3; cases h3
 simp -dsimp (disch:=first | assumption | omega) only [↓AAp,AAk,AAn,AAo,eq_self,Nat.reduceEqDiff,↓reduceIte,reduceCtorEq]
 refine (AWZ s [46,46] hs).calls rfl ?_
 rintro _ rfl
 cases h4:Lib.contains s [46,46] with
 | true =>
  simp -dsimp (disch:=first | assumption | omega) only [↓AAp,AAk,AAn,AAo,eq_self,Nat.reduceEqDiff,↓reduceIte,reduceCtorEq,↓AAA]
  exact ⟨_,rfl,ABm (fun h=>h.elim h0 fun h=>h.2.2.2.1 ((AHh 46 46 s).1 h4)) _ rfl⟩
 | false =>
 have h4':¬ A33 46 46 s:=fun h=>by rw [(AHh 46 46 s).2 h] at h4; cases h4
 simp -dsimp (disch:=first | assumption | omega) only [↓AAp,AAk,AAn,AAo,eq_self,Nat.reduceEqDiff,↓reduceIte,reduceCtorEq]
 refine (AWZ s [64,123] hs).calls rfl ?_
 rintro _ rfl
 cases h5:Lib.contains s [64,123] with
 | true =>
  simp -dsimp (disch:=first | assumption | omega) only [↓AAp,AAk,AAn,AAo,eq_self,Nat.reduceEqDiff,↓reduceIte,reduceCtorEq,↓AAA]
  exact ⟨_,rfl,ABm (fun h=>h.elim h0 fun h=>h.2.2.2.2.1 ((AHh 64 123 s).1 h5)) _ rfl⟩
 | false =>
 have h5':¬ A33 64 123 s:=fun h=>by rw [(AHh 64 123 s).2 h] at h5; cases h5
 simp -dsimp (disch:=first | assumption | omega) only [↓AAp,AAk,AAn,AAo,eq_self,Nat.reduceEqDiff,↓reduceIte,reduceCtorEq,↓AAA]
 refine (AVO s (by omega)).calls rfl ?_
 rintro _ ⟨b,rfl,hb⟩
 cases b with
 | true =>
  simp -dsimp (disch:=first | assumption | omega) only [↓AAp,AAk,AAn,AAo,eq_self,Nat.reduceEqDiff,↓reduceIte,reduceCtorEq,↓AAA]
  exact ⟨_,rfl,ABm (fun h=>h.elim h0 fun h=>hb.1 rfl h.2.2.2.2.2.1) _ rfl⟩
 | false =>
 have h6':∀ c∈s,AMH c=true:=Classical.not_not.1 fun h=>by have:=hb.2 h; cases this
 simp -dsimp (disch:=first | assumption | omega) only [↓AAp,AAk,AAn,AAo,eq_self,Nat.reduceEqDiff,↓reduceIte,reduceCtorEq,↓AAA]
 refine AAs.mono (A1L s 47 _) ?_
 rintro x H' ⟨rfl,rfl⟩
 have key:A0M s↔(ABo 47 s).all ABN=true:=⟨fun h=>h.elim (fun h=>absurd h h0) fun h=>h.2.2.2.2.2.2,fun h => .inr ⟨by omega,h2',h3',h4',h5',h6',h⟩⟩
 simp -dsimp (disch:=first | assumption | omega) only [↓AAp,AAk,AAn,AAo,eq_self,Nat.reduceEqDiff,↓reduceIte,Nat.reduceAdd,reduceCtorEq,↓AAA]
 refine A65 rfl (by kernel_rfl) rfl rfl ?_
 intro N fn ca cb hc
 refine AAs.mono (AZP (c:=47) (id:=4) (sp:=2) (sid:=1) (sv:=3) (L:=5) (r0:=s)
  (I:=fun r H=>(ABo 47 s).all ABN=(ABo 47 r).all ABN∧r.length≤s.length∧H=[.obj 0 (tb false),.obj 0 (ts r),.obj 0 (ts [47]),.obj 0 (i64 ((0:Nat):Int)),.lp .ready none fn N [(2,.op 0 0 []),(29,.fn (.func 117) [] [.op 2 0 [],.op 1 0 [],.op 3 0 []])] [30] ca cb])
  (J:=fun H=>(ABo 47 s).all ABN=false∧∃ r,H=[.obj 0 (tb false),.obj 0 (ts r),.obj 0 (ts [47]),.obj 0 (i64 ((0:Nat):Int)),.lp .done (some .ret) fn N [(2,.op 0 0 []),(29,.fn (.func 117) [] [.op 2 0 [],.op 1 0 [],.op 3 0 []])] [30] ca cb])
  (E:=fun H=>((ABo 47 s).all ABN=false∧∃ r,H=[.obj 0 (tb false),.obj 0 (ts r),.obj 0 (ts [47]),.obj 0 (i64 ((0:Nat):Int)),.lp .done (some .ret) fn N [(2,.op 0 0 []),(29,.fn (.func 117) [] [.op 2 0 [],.op 1 0 [],.op 3 0 []])] [30] ca cb])
   ∨ ((ABo 47 s).all ABN=true∧∃ r,H=[.obj 0 (tb false),.obj 0 (ts r),.obj 0 (ts [47]),.obj 0 (i64 ((0:Nat):Int)),.lp .ready none fn N [(2,.op 0 0 []),(29,.fn (.func 117) [] [.op 2 0 [],.op 1 0 [],.op 3 0 []])] [30] ca cb])) ?_ ?_ ?_ ?_ rfl) ?_
 ·rintro r H ⟨g1,g2,rfl⟩
  exact ⟨by simp,by omega,rfl,rfl,rfl⟩
 ·rintro r H k ⟨g1,g2,rfl⟩ hk hp
  rw [hp,List.all_cons] at g1
  have hlen:(r.take k).length≤1000:=by simp; omega
  refine AWv rfl hc rfl rfl rfl ?_
  rcases AUs (r.take k) with ⟨hn,(h | ⟨c,l,h,(rfl | ⟨hc1,hc2⟩)⟩)⟩ | ⟨hn,c,l,h,hc1,hc2⟩
  ·rw [h]
   simp -dsimp (disch:=first | assumption | omega) only [↓AAp,AAk,AAn,AAo,eq_self,Nat.reduceEqDiff,↓reduceIte,↓AAA,AOP,ATX]
   exact .inr ⟨by rw [g1,hn,Bool.false_and],_,rfl⟩
  ·rw [h]
   simp -dsimp (disch:=first | assumption | omega) only [↓AAp,AAk,AAn,AAo,eq_self,Nat.reduceEqDiff,UInt8.reduceToNat,↓reduceIte,reduceCtorEq,↓AAA,AOP,ATX,AAD]
   exact .inr ⟨by rw [g1,hn,Bool.false_and],_,rfl⟩
  ·have hd:¬ c.toNat=46:=fun e=>hc1 (UInt8.toNat_inj.1 e)
   have hne:¬ (c::l)=[]:=by simp
   rw [h] at hc2 ⊢
   have hle:(c::l).length≤9223372036854775807:=by rw [←h]; omega
   simp -dsimp (disch:=first | assumption | omega) only [↓AAp,AAk,AAn,AAo,eq_self,Nat.reduceEqDiff,↓reduceIte,reduceCtorEq,↓AAA,AOP,AAD,hd]
   refine (AH5 (c::l) [46,108,111,99,107] hle).calls rfl ?_
   rintro _ rfl
   rw [hc2]
   simp -dsimp (disch:=first | assumption | omega) only [↓AAp,AAk,AAn,AAo,eq_self,Nat.reduceEqDiff,↓reduceIte,ATX]
   exact .inr ⟨by rw [g1,hn,Bool.false_and],_,rfl⟩
  ·have hd:¬ c.toNat=46:=fun e=>hc1 (UInt8.toNat_inj.1 e)
   have hne:¬ (c::l)=[]:=by simp
   rw [h] at hc2 ⊢
   have hle:(c::l).length≤9223372036854775807:=by rw [←h]; omega
   simp -dsimp (disch:=first | assumption | omega) only [↓AAp,AAk,AAn,AAo,eq_self,Nat.reduceEqDiff,↓reduceIte,reduceCtorEq,↓AAA,AOP,AAD,hd]
   refine (AH5 (c::l) [46,108,111,99,107] hle).calls rfl ?_
   rintro _ rfl
   rw [hc2]
   simp -dsimp (disch:=first | assumption | omega) only [↓AAp,AAk,AAn,AAo,eq_self,Nat.reduceEqDiff,↓reduceIte,Nat.reduceAdd,ATX]
   refine ⟨5,⟨by omega,by omega,.inl (by omega)⟩,.inl ⟨rfl,rfl,by rw [g1,hn,Bool.true_and],by omega,rfl⟩⟩
 ·rintro r H ⟨g1,g2,rfl⟩ hp
  rw [hp,List.all_cons] at g1
  refine AWv rfl hc rfl rfl rfl ?_
  rcases AUs r with ⟨hn,(h | ⟨c,l,h,(rfl | ⟨hc1,hc2⟩)⟩)⟩ | ⟨hn,c,l,h,hc1,hc2⟩
  ·rw [h]
   simp -dsimp (disch:=first | assumption | omega) only [↓AAp,AAk,AAn,AAo,eq_self,Nat.reduceEqDiff,↓reduceIte,↓AAA,AOP,ATX]
   exact .inl ⟨by rw [g1,hn,Bool.false_and],_,rfl⟩
  ·rw [h]
   simp -dsimp (disch:=first | assumption | omega) only [↓AAp,AAk,AAn,AAo,eq_self,Nat.reduceEqDiff,UInt8.reduceToNat,↓reduceIte,reduceCtorEq,↓AAA,AOP,ATX,AAD]
   exact .inl ⟨by rw [g1,hn,Bool.false_and],_,rfl⟩
  ·have hd:¬ c.toNat=46:=fun e=>hc1 (UInt8.toNat_inj.1 e)
   have hne:¬ (c::l)=[]:=by simp
   rw [h] at hc2 ⊢
   have hle:(c::l).length≤9223372036854775807:=by rw [←h]; omega
   simp -dsimp (disch:=first | assumption | omega) only [↓AAp,AAk,AAn,AAo,eq_self,Nat.reduceEqDiff,↓reduceIte,reduceCtorEq,↓AAA,AOP,AAD,hd]
   refine (AH5 (c::l) [46,108,111,99,107] hle).calls rfl ?_
   rintro _ rfl
   rw [hc2]
   simp -dsimp (disch:=first | assumption | omega) only [↓AAp,AAk,AAn,AAo,eq_self,Nat.reduceEqDiff,↓reduceIte,ATX]
   exact .inl ⟨by rw [g1,hn,Bool.false_and],_,rfl⟩
  ·have hd:¬ c.toNat=46:=fun e=>hc1 (UInt8.toNat_inj.1 e)
   have hne:¬ (c::l)=[]:=by simp
   rw [h] at hc2 ⊢
   have hle:(c::l).length≤9223372036854775807:=by rw [←h]; omega
   simp -dsimp (disch:=first | assumption | omega) only [↓AAp,AAk,AAn,AAo,eq_self,Nat.reduceEqDiff,↓reduceIte,reduceCtorEq,↓AAA,AOP,AAD,hd]
   refine (AH5 (c::l) [46,108,111,99,107] hle).calls rfl ?_
   rintro _ rfl
   rw [hc2]
   simp -dsimp (disch:=first | assumption | omega) only [↓AAp,AAk,AAn,AAo,eq_self,Nat.reduceEqDiff,↓reduceIte,Nat.reduceAdd,ATX]
   refine ⟨5,⟨by omega,by omega,.inl (by omega)⟩,.inr ⟨by rw [g1,hn]; rfl,_,rfl⟩⟩
 ·exact ⟨rfl,Nat.le_refl _,rfl⟩
 ·rintro _ H' ((⟨g1,r,rfl⟩ | ⟨g1,r,rfl⟩) | ⟨g1,r,rfl⟩)
  ·simp -dsimp (disch:=first | assumption | omega) only [↓AAp,AAk,AAn,AAo,eq_self,↓reduceIte,Nat.reduceAdd,↓AAA,ARg]
   exact ⟨_,rfl,by rw [key,g1]⟩
  ·simp -dsimp (disch:=first | assumption | omega) only [↓AAp,AAk,AAn,AAo,eq_self,↓reduceIte,Nat.reduceAdd,↓AAA,ARg]
   exact ⟨_,rfl,by rw [key,g1]⟩
  ·simp -dsimp (disch:=first | assumption | omega) only [↓AAp,AAk,AAn,AAo,eq_self,↓reduceIte,Nat.reduceAdd,↓AAA,ARg]
   exact ⟨_,rfl,by rw [key,g1]⟩
end
section
variable [AAE]
set_option maxRecDepth 100000
def AGb:AAm := .seq (.ops [mv_ 12 4,po_ 13 (.fieldA 0 0 (.t 1)),po_ 14 (.load false 1 (.t 13)),so_ 15 (.call 40 [.t 14]),so_ 16 (.call 27 [.t 12,.t 15])] [1,4])
 (.ops [mv_ 17 4,po_ 18 (.fieldA 0 0 (.t 1)),po_ 19 (.load false 1 (.t 18)),⟨some 20,.s (.bslice 1 2 (.val (.string (str []))) [⟨0,.c (.string (str [104,101,97,100]))⟩,⟨1,.t 19⟩]),none⟩,so_ 21 (.call 29 [.t 17,.t 20])] [1,4])
def AGd:AAm := .seq (.sdraw 15 [mv_ 36 4,po_ 37 (.fieldA 0 0 (.t 6)),po_ 38 (.load false 1 (.t 37)),so_ 39 (.call 40 [.t 38]),mv_ 40 39,⟨some 41,.p (.mov (.t 5)),some ⟨40,true⟩⟩,⟨some 42,.p (.bin 3 .eql (.t 41) (ci_ 0)),some ⟨40,true⟩⟩,⟨some 43,.p (.mov (.t 42)),some ⟨40,true⟩⟩,⟨some 44,.p (.fieldA 1 1 (.t 1)),some ⟨43,false⟩⟩,⟨some 45,.p (.load false 1 (.t 44)),some ⟨43,false⟩⟩,⟨some 46,.p (.mov (.t 5)),some ⟨43,false⟩⟩,⟨some 47,.p (.bin 3 .sub (.t 46) (ci_ 1)),some ⟨43,false⟩⟩,⟨some 48,.p (.idxA 21 (.t 45) (.t 47)),some ⟨43,false⟩⟩,⟨some 49,.p (.fieldA 0 0 (.t 48)),some ⟨43,false⟩⟩,⟨some 50,.p (.load false 1 (.t 49)),some ⟨43,false⟩⟩,⟨some 51,.p (.fieldA 0 0 (.t 6)),some ⟨43,false⟩⟩,⟨some 52,.p (.load false 1 (.t 51)),some ⟨43,false⟩⟩,⟨some 53,.p (.bin 9 .lss (.t 50) (.t 52)),some ⟨43,false⟩⟩,⟨some 54,.p (.pick (.t 43) (.c (.bool true)) (.t 53)),some ⟨40,true⟩⟩,po_ 55 (.pick (.t 40) (.t 54) (.c (.bool false))),so_ 56 (.call 27 [.t 36,.t 55])] [1,4,6,29,30,31])
 (.draw 6 [mv_ 57 4,po_ 58 (.fieldA 1 1 (.t 6)),po_ 59 (.load true 20 (.t 58)),po_ 61 (.fieldA 0 0 (.t 6)),po_ 62 (.load false 1 (.t 61)),so_ 60 (.call 30 [.t 59]),⟨some 63,.s (.bslice 1 2 (.val (.string (str []))) [⟨0,.t 60⟩,⟨1,.t 62⟩]),none⟩,so_ 64 (.call 29 [.t 57,.t 63])] [1,4,29,30,31])
def AFR:AAm := .seq (.block 1 (.seq (.ops [mv_ 33 31,po_ 34 (.idxA 21 (.t 29) (.t 31)),po_ 35 (.load true 21 (.t 34)),so_ 6 (.alloc (.agg [.val (.string (str [])),.arr 20 1 [.val (.int .u8 ((0:Nat):Int)),.val (.int .u8 ((0:Nat):Int)),.val (.int .u8 ((0:Nat):Int)),.val (.int .u8 ((0:Nat):Int)),.val (.int .u8 ((0:Nat):Int)),.val (.int .u8 ((0:Nat):Int)),.val (.int .u8 ((0:Nat):Int)),.val (.int .u8 ((0:Nat):Int)),.val (.int .u8 ((0:Nat):Int)),.val (.int .u8 ((0:Nat):Int)),.val (.int .u8 ((0:Nat):Int)),.val (.int .u8 ((0:Nat):Int)),.val (.int .u8 ((0:Nat):Int)),.val (.int .u8 ((0:Nat):Int)),.val (.int .u8 ((0:Nat):Int)),.val (.int .u8 ((0:Nat):Int)),.val (.int .u8 ((0:Nat):Int)),.val (.int .u8 ((0:Nat):Int)),.val (.int .u8 ((0:Nat):Int)),.val (.int .u8 ((0:Nat):Int))]])),mv_ 5 33,⟨none,.s (.store 21 (.t 6) (.t 35)),none⟩] [1,4,5,6,29,30,31])
 AGd))
 (.ops [po_ 65 (.bin 3 .add (.t 31) (ci_ 1)),mv_ 31 65] [1,4,29,30,31])
def AFP:AAm := .seq (.cond (.t 32)
 (.skip)
 (.exit 0))
 AFR
def AFN:AAm := .seq (.ops [po_ 32 (.bin 3 .lss (.t 31) (.t 30))] [1,4,29,30,31,32])
 AFP
def AFU:AAm := .block 0 (.loop [1,4,29,30,31] AFN)
def AGc:AAm := .seq (.ops [mv_ 66 4,so_ 67 (.call 31 [.t 66])] [4])
 (.seq (.ops [mv_ 68 4,so_ 69 (.call 32 [.t 68]),po_ 70 (.ext 0 (.t 69)),po_ 71 (.ext 1 (.t 69)),mv_ 2 70,mv_ 3 71] [2,3])
 (.ret))
def AF1:AAm := .seq (.seq (.ops [po_ 28 (.fieldA 1 1 (.t 1)),po_ 29 (.load false 1 (.t 28)),po_ 30 (.lenV (.t 29)),po_ 31 (.mov (ci_ 0))] [1,4,29,30,31])
 AFU)
 AGc
def ACW:AAm := .seq (.ops [mv_ 22 4,po_ 23 (.fieldA 1 1 (.t 1)),po_ 24 (.load false 1 (.t 23)),po_ 25 (.lenV (.t 24)),po_ 26 (.bin 3 .leq (.t 25) (ci_ 500)),so_ 27 (.call 27 [.t 22,.t 26])] [1,4])
 AF1
def AFj:AAm := .seq (.seq (.ops [po_ 9 (.fieldA 0 0 (.t 1)),po_ 10 (.load false 1 (.t 9)),po_ 11 (.bin 9 .neq (.t 10) (.c (.string (str []))))] [1,4,11])
 (.cond (.t 11)
 AGb
 (.skip)))
 ACW
def AFn:AAm := .seq (.ops [po_ 7 (.build [.val (.slice none 0 0),.val (.bool false)] [1,1] []),so_ 8 (.box (.t 7)),mv_ 4 8] [1,4])
 AFj
def AIN:AAm := .seq (.ops [so_ 1 (.box (.t 0)),po_ 2 (.mov (.c (.slice none 0 0))),po_ 3 (.mov (.c .nilIface))] [1])
 AFn
def AEK:List VR:=[.tmp 2,.tmp 3]
theorem AQy:Tryz.f13.body.bind (trC Tryz.prog Tryz.f13.ntmps)=some (er AIN):=by kernel_rfl
theorem AQD:trR Tryz.prog Tryz.f13.results.toList=some AEK:=by kernel_rfl
def AKG:=AAj AGb.eq_1
def AKN:=AAj AGd.eq_1
def AKK:=AAj AFR.eq_1
def AEj:=AAj AFP.eq_1
def AEk:=AAj AFN.eq_1
def AKB:=AAj AFU.eq_1
def AKu:=AAj AGc.eq_1
def AKP:=AAj AF1.eq_1
def AKD:=AAj ACW.eq_1
def ADy:=AAj AFj.eq_1
def ADV:=AAj AFn.eq_1
def AGR:=AAj AIN.eq_1
theorem AGD {K:TV→Prop} {e:Env} {H:List Ob}:res AEK e H K=res [.tmp 2,.tmp 3] e H K:=AAi rfl
def AOQ:=ABp 72 Tryz.func13 AQy AQD rfl
def AGP:AAm := .seq (.draw 5 [po_ 40 (.fieldA 1 1 (.t 6)),po_ 41 (.load false 1 (.t 40)),mv_ 42 8,po_ 43 (.idxA 1 (.t 42) (ci_ 1)),po_ 44 (.load false 1 (.t 43)),po_ 45 (.load true 20 (.t 9)),⟨some 46,.p (.build [.val (.string (str [])),.arr 20 1 [.val (.int .u8 ((0:Nat):Int)),.val (.int .u8 ((0:Nat):Int)),.val (.int .u8 ((0:Nat):Int)),.val (.int .u8 ((0:Nat):Int)),.val (.int .u8 ((0:Nat):Int)),.val (.int .u8 ((0:Nat):Int)),.val (.int .u8 ((0:Nat):Int)),.val (.int .u8 ((0:Nat):Int)),.val (.int .u8 ((0:Nat):Int)),.val (.int .u8 ((0:Nat):Int)),.val (.int .u8 ((0:Nat):Int)),.val (.int .u8 ((0:Nat):Int)),.val (.int .u8 ((0:Nat):Int)),.val (.int .u8 ((0:Nat):Int)),.val (.int .u8 ((0:Nat):Int)),.val (.int .u8 ((0:Nat):Int)),.val (.int .u8 ((0:Nat):Int)),.val (.int .u8 ((0:Nat):Int)),.val (.int .u8 ((0:Nat):Int)),.val (.int .u8 ((0:Nat):Int))]] [1,20] [⟨0,.t 44⟩,⟨1,.t 45⟩]),none⟩,⟨some 47,.s (.bslice 21 1 (.agg [.val (.string (str [])),.arr 20 1 [.val (.int .u8 ((0:Nat):Int)),.val (.int .u8 ((0:Nat):Int)),.val (.int .u8 ((0:Nat):Int)),.val (.int .u8 ((0:Nat):Int)),.val (.int .u8 ((0:Nat):Int)),.val (.int .u8 ((0:Nat):Int)),.val (.int .u8 ((0:Nat):Int)),.val (.int .u8 ((0:Nat):Int)),.val (.int .u8 ((0:Nat):Int)),.val (.int .u8 ((0:Nat):Int)),.val (.int .u8 ((0:Nat):Int)),.val (.int .u8 ((0:Nat):Int)),.val (.int .u8 ((0:Nat):Int)),.val (.int .u8 ((0:Nat):Int)),.val (.int .u8 ((0:Nat):Int)),.val (.int .u8 ((0:Nat):Int)),.val (.int .u8 ((0:Nat):Int)),.val (.int .u8 ((0:Nat):Int)),.val (.int .u8 ((0:Nat):Int)),.val (.int .u8 ((0:Nat):Int))]]) [⟨0,.t 46⟩]),none⟩,so_ 48 (.app 21 40 86 (.t 41) (.t 47)),po_ 49 (.fieldA 1 1 (.t 6)),⟨none,.s (.store 1 (.t 49) (.t 48)),none⟩] [0,2,6,22,23,24])
 (.exit 1)
def AGw:AAm := .seq (.ops [mv_ 38 10,po_ 39 (.eqN 1 (.t 38) (.c .nilIface) false)] [0,2,6,8,9,22,23,24,39])
 (.cond (.t 39)
 AGP
 (.skip))
def AG1:AAm := .seq (.seq (.ops [mv_ 32 8,po_ 33 (.idxA 1 (.t 32) (ci_ 0)),po_ 34 (.load false 1 (.t 33)),so_ 35 (.call 65 [.t 34]),mv_ 31 35,po_ 36 (.ext 0 (.t 31)),po_ 37 (.ext 1 (.t 31)),so_ 9 (.alloc (.arr 20 1 [.val (.int .u8 ((0:Nat):Int)),.val (.int .u8 ((0:Nat):Int)),.val (.int .u8 ((0:Nat):Int)),.val (.int .u8 ((0:Nat):Int)),.val (.int .u8 ((0:Nat):Int)),.val (.int .u8 ((0:Nat):Int)),.val (.int .u8 ((0:Nat):Int)),.val (.int .u8 ((0:Nat):Int)),.val (.int .u8 ((0:Nat):Int)),.val (.int .u8 ((0:Nat):Int)),.val (.int .u8 ((0:Nat):Int)),.val (.int .u8 ((0:Nat):Int)),.val (.int .u8 ((0:Nat):Int)),.val (.int .u8 ((0:Nat):Int)),.val (.int .u8 ((0:Nat):Int)),.val (.int .u8 ((0:Nat):Int)),.val (.int .u8 ((0:Nat):Int)),.val (.int .u8 ((0:Nat):Int)),.val (.int .u8 ((0:Nat):Int)),.val (.int .u8 ((0:Nat):Int))])),⟨none,.s (.store 20 (.t 9) (.t 36)),none⟩,mv_ 10 37] [0,2,6,8,9,10,22,23,24])
 AGw)
 (.ops [mv_ 50 8,po_ 51 (.idxA 1 (.t 50) (ci_ 1)),po_ 52 (.load false 1 (.t 51)),po_ 53 (.fieldA 0 0 (.t 6)),⟨none,.s (.store 1 (.t 53) (.t 52)),none⟩] [0,2,6,22,23,24])
def AGA:AAm := .seq (.seq (.ops [mv_ 28 8,po_ 29 (.lenV (.t 28)),po_ 30 (.bin 3 .neq (.t 29) (ci_ 2))] [0,2,6,8,22,23,24,30])
 (.cond (.t 30)
 (.exit 1)
 (.skip)))
 AG1
def AGT:AAm := .seq (.block 1 (.seq (.ops [po_ 26 (.idxA 1 (.t 22) (.t 24)),po_ 27 (.load false 1 (.t 26)),mv_ 8 27] [0,2,6,8,22,23,24])
 AGA))
 (.ops [po_ 54 (.bin 3 .add (.t 24) (ci_ 1)),mv_ 24 54] [0,2,6,22,23,24])
def AGX:AAm := .seq (.cond (.t 25)
 (.skip)
 (.exit 0))
 AGT
def AGy:AAm := .seq (.ops [po_ 25 (.bin 3 .lss (.t 24) (.t 23))] [0,2,6,22,23,24,25])
 AGX
def AGW:AAm := .block 0 (.ownB 6 [(1,1)] 21 (.loop [0,2,6,22,23,24] AGy))
def AGE:AAm := .seq (.seq (.ops [mv_ 60 0,mv_ 61 11,mv_ 62 5,so_ 63 (.call 66 [.t 60,.t 61,.t 62]),mv_ 12 63] [2,6,12])
 (.seq (.ops [mv_ 64 12,po_ 65 (.eqN 1 (.t 64) (.c .nilIface) true)] [2,6,12,65])
 (.cond (.t 65)
 (.seq (.ops [po_ 66 (.build [.val (.string (str [])),.val (.slice none 0 0)] [1,1] []),mv_ 67 12,⟨none,.s (.store 2 (.t 2) (.t 66)),none⟩,mv_ 3 67] [2,3])
  (.ret))
 (.skip))))
 (.seq (.ops [po_ 68 (.load true 2 (.t 6)),⟨none,.s (.store 2 (.t 2) (.t 68)),none⟩,po_ 3 (.mov (.c .nilIface))] [2,3])
 (.ret))
def AFO:AAm := .seq (.ops [po_ 56 (.load true 2 (.t 6)),so_ 57 (.call 13 [.t 56]),mv_ 55 57,po_ 58 (.ext 0 (.t 55)),po_ 59 (.ext 1 (.t 55)),mv_ 11 58,mv_ 5 59] [0,2,5,6,11])
 AGE
def AFV:AAm := .seq (.seq (.ops [mv_ 22 4,po_ 23 (.lenV (.t 22)),po_ 24 (.mov (ci_ 0))] [0,2,6,22,23,24])
 AGW)
 AFO
def AF0:AAm := .seq (.ops [so_ 6 (.alloc (.agg [.val (.string (str [])),.val (.slice none 0 0)]))] [0,2,4,6])
 AFV
def AFY:AAm := .seq (.seq (.ops [mv_ 18 5,po_ 19 (.eqN 1 (.t 18) (.c .nilIface) true)] [0,2,4,5,19])
 (.cond (.t 19)
 (.seq (.ops [po_ 20 (.build [.val (.string (str [])),.val (.slice none 0 0)] [1,1] []),mv_ 21 5,⟨none,.s (.store 2 (.t 2) (.t 20)),none⟩,mv_ 3 21] [2,3])
  (.ret))
 (.skip)))
 AF0
def AF3:AAm := .seq (.ops [mv_ 14 0,so_ 15 (.call 64 [.t 14]),mv_ 13 15,po_ 16 (.ext 0 (.t 13)),po_ 17 (.ext 1 (.t 13)),mv_ 4 16,mv_ 5 17] [0,2,4,5])
 AFY
def AJJ:AAm := .seq (.ops [so_ 2 (.alloc (.agg [.val (.string (str [])),.val (.slice none 0 0)])),po_ 3 (.mov (.c .nilIface))] [0,2])
 AF3
def AJT:List VR:=[.cell 2 true 2,.tmp 3]
theorem ARJ:Tryz.f42.body.bind (trC Tryz.prog Tryz.f42.ntmps)=some (er AJJ):=by kernel_rfl
theorem AR6:trR Tryz.prog Tryz.f42.results.toList=some AJT:=by kernel_rfl
def AKX:=AAj AGP.eq_1
def AFy:=AAj AGw.eq_1
def ALv:=AAj AG1.eq_1
def AFD:=AAj AGA.eq_1
def AFc:=AAj AGT.eq_1
def ACQ:=AAj AGX.eq_1
def ACK:=AAj AGy.eq_1
def ALU:=AAj AGW.eq_1
def AFi:=AAj AGE.eq_1
def AKF:=AAj AFO.eq_1
def AKC:=AAj AFV.eq_1
def AKE:=AAj AF0.eq_1
def AEl:=AAj AFY.eq_1
def AKM:=AAj AF3.eq_1
def AOp:=AAj AJJ.eq_1
theorem ACE {K:TV→Prop} {e:Env} {H:List Ob}:res AJT e H K=res [.cell 2 true 2,.tmp 3] e H K:=AAi rfl
def APX:=ABp 69 Tryz.func42 ARJ AR6 rfl
def AFB:AAm := .seq (.draw 14 [po_ 68 (.fieldA 1 1 (.t 1)),po_ 69 (.load false 1 (.t 68)),mv_ 70 6,po_ 71 (.idxA 22 (.t 69) (.t 70)),po_ 72 (.fieldA 1 1 (.t 71)),po_ 73 (.load true 20 (.t 72)),so_ 74 (.call 35 [.t 73]),po_ 75 (.bin 9 .add (.t 74) (.c (.string (str [32])))),po_ 76 (.fieldA 1 1 (.t 1)),po_ 77 (.load false 1 (.t 76)),mv_ 78 6,po_ 79 (.idxA 22 (.t 77) (.t 78)),po_ 80 (.fieldA 0 0 (.t 79)),po_ 81 (.load false 1 (.t 80)),po_ 82 (.bin 9 .add (.t 75) (.t 81)),so_ 83 (.call 34 [.t 82]),mv_ 8 83] [1,4,6,8])
 (.ops [mv_ 84 4,mv_ 85 8,so_ 86 (.app 1 1 5 (.t 84) (.t 85)),mv_ 4 86] [1,4,6])
def AE4:AAm := .seq (.seq (.draw 15 [mv_ 46 7,po_ 47 (.un .not (.t 46)),mv_ 48 47,⟨some 49,.p (.mov (.t 6)),some ⟨48,false⟩⟩,⟨some 50,.p (.bin 3 .gtr (.t 49) (ci_ 0)),some ⟨48,false⟩⟩,⟨some 51,.p (.mov (.t 50)),some ⟨48,false⟩⟩,⟨some 52,.p (.fieldA 1 1 (.t 1)),some ⟨51,true⟩⟩,⟨some 53,.p (.load false 1 (.t 52)),some ⟨51,true⟩⟩,⟨some 54,.p (.mov (.t 6)),some ⟨51,true⟩⟩,⟨some 55,.p (.bin 3 .sub (.t 54) (ci_ 1)),some ⟨51,true⟩⟩,⟨some 56,.p (.idxA 22 (.t 53) (.t 55)),some ⟨51,true⟩⟩,⟨some 57,.p (.fieldA 0 0 (.t 56)),some ⟨51,true⟩⟩,⟨some 58,.p (.load false 1 (.t 57)),some ⟨51,true⟩⟩,⟨some 59,.p (.fieldA 1 1 (.t 1)),some ⟨51,true⟩⟩,⟨some 60,.p (.load false 1 (.t 59)),some ⟨51,true⟩⟩,⟨some 61,.p (.mov (.t 6)),some ⟨51,true⟩⟩,⟨some 62,.p (.idxA 22 (.t 60) (.t 61)),some ⟨51,true⟩⟩,⟨some 63,.p (.fieldA 0 0 (.t 62)),some ⟨51,true⟩⟩,⟨some 64,.p (.load false 1 (.t 63)),some ⟨51,true⟩⟩,⟨some 65,.p (.bin 9 .geq (.t 58) (.t 64)),some ⟨51,true⟩⟩,⟨some 66,.p (.pick (.t 51) (.t 65) (.c (.bool false))),some ⟨48,false⟩⟩,po_ 67 (.pick (.t 48) (.c (.bool true)) (.t 66))] [1,4,6,67])
 (.cond (.t 67)
 (.seq (.ops [po_ 2 (.mov (.c (.slice none 0 0))),po_ 3 (.mov (ci_ 111))] [2,3])
  (.ret))
 (.skip)))
 AFB
def AFb:AAm := .seq (.block 1 (.seq (.ops [po_ 39 (.fieldA 1 1 (.t 1)),po_ 40 (.load false 1 (.t 39)),mv_ 41 6,po_ 42 (.idxA 22 (.t 40) (.t 41)),po_ 43 (.fieldA 0 0 (.t 42)),po_ 44 (.load false 1 (.t 43)),so_ 45 (.call 41 [.t 44]),mv_ 7 45] [1,4,6,7])
 AE4))
 (.ops [mv_ 37 6,po_ 38 (.bin 3 .add (.t 37) (ci_ 1)),mv_ 6 38] [1,4,6])
def ACU:AAm := .seq (.seq (.ops [mv_ 32 6,po_ 33 (.fieldA 1 1 (.t 1)),po_ 34 (.load false 1 (.t 33)),po_ 35 (.lenV (.t 34)),po_ 36 (.bin 3 .lss (.t 32) (.t 35))] [1,4,6,36])
 (.cond (.t 36)
 (.skip)
 (.exit 0)))
 AFb
def AEZ:AAm := .block 0 (.own 4 1 (.loop [1,4,6] ACU))
def AE9:AAm := .seq (.ops [mv_ 87 4,so_ 88 (.appS 5 (.t 87) (.c (.string (str [48,48,48,48])))),mv_ 2 88,po_ 3 (.mov (ci_ 0))] [2,3])
 (.ret)
def ACN:AAm := .seq (.seq (.ops [po_ 6 (.mov (ci_ 0))] [1,4,6])
 AEZ)
 AE9
def AFf:AAm := .seq (.seq (.ops [po_ 25 (.fieldA 0 0 (.t 1)),po_ 26 (.load false 1 (.t 25)),po_ 27 (.bin 9 .neq (.t 26) (.c (.string (str []))))] [1,4,27])
 (.cond (.t 27)
 (.ops [po_ 28 (.fieldA 0 0 (.t 1)),po_ 29 (.load false 1 (.t 28)),po_ 30 (.bin 9 .add (.c (.string (str [104,101,97,100,32]))) (.t 29)),so_ 31 (.call 34 [.t 30]),mv_ 4 31] [1,4])
 (.skip)))
 ACN
def AFm:AAm := .seq (.seq (.ops [po_ 12 (.fieldA 0 0 (.t 1)),po_ 13 (.load false 1 (.t 12)),po_ 14 (.bin 9 .neq (.t 13) (.c (.string (str [])))),mv_ 15 14,⟨some 16,.p (.mov (.t 5)),some ⟨15,true⟩⟩,⟨some 17,.p (.un .not (.t 16)),some ⟨15,true⟩⟩,po_ 18 (.pick (.t 15) (.t 17) (.c (.bool false))),mv_ 19 18,⟨some 20,.p (.fieldA 1 1 (.t 1)),some ⟨19,false⟩⟩,⟨some 21,.p (.load false 1 (.t 20)),some ⟨19,false⟩⟩,⟨some 22,.p (.lenV (.t 21)),some ⟨19,false⟩⟩,⟨some 23,.p (.bin 3 .gtr (.t 22) (ci_ 500)),some ⟨19,false⟩⟩,po_ 24 (.pick (.t 19) (.c (.bool true)) (.t 23))] [1,4,24])
 (.cond (.t 24)
 (.seq (.ops [po_ 2 (.mov (.c (.slice none 0 0))),po_ 3 (.mov (ci_ 111))] [2,3])
  (.ret))
 (.skip)))
 AFf
def AEu:AAm := .seq (.ops [po_ 9 (.fieldA 0 0 (.t 1)),po_ 10 (.load false 1 (.t 9)),so_ 11 (.call 41 [.t 10]),mv_ 5 11] [1,4,5])
 AFm
def AEh:AAm := .seq (.ops [po_ 4 (.mov (.c (.slice none 0 0)))] [1,4])
 AEu
def AHy:AAm := .seq (.ops [so_ 1 (.box (.t 0)),po_ 2 (.mov (.c (.slice none 0 0))),po_ 3 (.mov (ci_ 0))] [1])
 AEh
def ACI:List VR:=[.tmp 2,.tmp 3]
theorem APH:Tryz.f15.body.bind (trC Tryz.prog Tryz.f15.ntmps)=some (er AHy):=by kernel_rfl
theorem APb:trR Tryz.prog Tryz.f15.results.toList=some ACI:=by kernel_rfl
def AJr:=AAj AFB.eq_1
def ABv:=AAj AE4.eq_1
def AJg:=AAj AFb.eq_1
def ADI:=AAj ACU.eq_1
def ADG:=AAj AEZ.eq_1
def ADx:=AAj AE9.eq_1
def ADY:=AAj ACN.eq_1
def ADZ:=AAj AFf.eq_1
def ABg:=AAj AFm.eq_1
def AIc:=AAj AEu.eq_1
def AH1:=AAj AEh.eq_1
def AMA:=AAj AHy.eq_1
theorem AFZ {K:TV→Prop} {e:Env} {H:List Ob}:res ACI e H K=res [.tmp 2,.tmp 3] e H K:=AAi rfl
def ANP:=ABp 89 Tryz.func15 APH APb rfl
def AF2:AAm := .draw 5 [po_ 43 (.fieldA 1 1 (.t 4)),po_ 44 (.load false 1 (.t 43)),mv_ 45 8,po_ 46 (.idxA 1 (.t 45) (ci_ 1)),po_ 47 (.load false 1 (.t 46)),po_ 48 (.load true 20 (.t 9)),⟨some 49,.p (.build [.val (.string (str [])),.arr 20 1 [.val (.int .u8 ((0:Nat):Int)),.val (.int .u8 ((0:Nat):Int)),.val (.int .u8 ((0:Nat):Int)),.val (.int .u8 ((0:Nat):Int)),.val (.int .u8 ((0:Nat):Int)),.val (.int .u8 ((0:Nat):Int)),.val (.int .u8 ((0:Nat):Int)),.val (.int .u8 ((0:Nat):Int)),.val (.int .u8 ((0:Nat):Int)),.val (.int .u8 ((0:Nat):Int)),.val (.int .u8 ((0:Nat):Int)),.val (.int .u8 ((0:Nat):Int)),.val (.int .u8 ((0:Nat):Int)),.val (.int .u8 ((0:Nat):Int)),.val (.int .u8 ((0:Nat):Int)),.val (.int .u8 ((0:Nat):Int)),.val (.int .u8 ((0:Nat):Int)),.val (.int .u8 ((0:Nat):Int)),.val (.int .u8 ((0:Nat):Int)),.val (.int .u8 ((0:Nat):Int))],.val (.string (str []))] [1,20,1] [⟨0,.t 47⟩,⟨1,.t 48⟩]),none⟩,⟨some 50,.s (.bslice 22 1 (.agg [.val (.string (str [])),.arr 20 1 [.val (.int .u8 ((0:Nat):Int)),.val (.int .u8 ((0:Nat):Int)),.val (.int .u8 ((0:Nat):Int)),.val (.int .u8 ((0:Nat):Int)),.val (.int .u8 ((0:Nat):Int)),.val (.int .u8 ((0:Nat):Int)),.val (.int .u8 ((0:Nat):Int)),.val (.int .u8 ((0:Nat):Int)),.val (.int .u8 ((0:Nat):Int)),.val (.int .u8 ((0:Nat):Int)),.val (.int .u8 ((0:Nat):Int)),.val (.int .u8 ((0:Nat):Int)),.val (.int .u8 ((0:Nat):Int)),.val (.int .u8 ((0:Nat):Int)),.val (.int .u8 ((0:Nat):Int)),.val (.int .u8 ((0:Nat):Int)),.val (.int .u8 ((0:Nat):Int)),.val (.int .u8 ((0:Nat):Int)),.val (.int .u8 ((0:Nat):Int)),.val (.int .u8 ((0:Nat):Int))],.val (.string (str []))]) [⟨0,.t 49⟩]),none⟩,so_ 51 (.app 22 56 88 (.t 44) (.t 50)),po_ 52 (.fieldA 1 1 (.t 4)),⟨none,.s (.store 1 (.t 52) (.t 51)),none⟩] [0,2,4,5,7]
def AFM:AAm := .seq (.ops [mv_ 53 8,po_ 54 (.idxA 1 (.t 53) (ci_ 0)),po_ 55 (.load false 1 (.t 54)),po_ 56 (.bin 9 .eql (.t 55) (.c (.string (str [104,101,97,100]))))] [0,2,4,5,7,8,56])
 (.cond (.t 56)
 (.ops [mv_ 57 8,po_ 58 (.idxA 1 (.t 57) (ci_ 1)),po_ 59 (.load false 1 (.t 58)),po_ 60 (.fieldA 0 0 (.t 4)),⟨none,.s (.store 1 (.t 60) (.t 59)),none⟩] [0,2,4,5,7])
 (.skip))
def AF7:AAm := .cond (.t 42)
 AF2
 AFM
def AFS:AAm := .seq (.ops [mv_ 42 10] [0,2,4,5,7,8,9,42])
 AF7
def AFX:AAm := .seq (.ops [mv_ 36 8,po_ 37 (.idxA 1 (.t 36) (ci_ 0)),po_ 38 (.load false 1 (.t 37)),so_ 39 (.call 69 [.t 38]),mv_ 35 39,po_ 40 (.ext 0 (.t 35)),po_ 41 (.ext 1 (.t 35)),so_ 9 (.alloc (.arr 20 1 [.val (.int .u8 ((0:Nat):Int)),.val (.int .u8 ((0:Nat):Int)),.val (.int .u8 ((0:Nat):Int)),.val (.int .u8 ((0:Nat):Int)),.val (.int .u8 ((0:Nat):Int)),.val (.int .u8 ((0:Nat):Int)),.val (.int .u8 ((0:Nat):Int)),.val (.int .u8 ((0:Nat):Int)),.val (.int .u8 ((0:Nat):Int)),.val (.int .u8 ((0:Nat):Int)),.val (.int .u8 ((0:Nat):Int)),.val (.int .u8 ((0:Nat):Int)),.val (.int .u8 ((0:Nat):Int)),.val (.int .u8 ((0:Nat):Int)),.val (.int .u8 ((0:Nat):Int)),.val (.int .u8 ((0:Nat):Int)),.val (.int .u8 ((0:Nat):Int)),.val (.int .u8 ((0:Nat):Int)),.val (.int .u8 ((0:Nat):Int)),.val (.int .u8 ((0:Nat):Int))])),⟨none,.s (.store 20 (.t 9) (.t 40)),none⟩,mv_ 10 41] [0,2,4,5,7,8,9,10])
 AFS
def AF9:AAm := .seq (.seq (.ops [mv_ 32 8,po_ 33 (.lenV (.t 32)),po_ 34 (.bin 3 .neq (.t 33) (ci_ 2))] [0,2,4,5,7,8,34])
 (.cond (.t 34)
 (.exit 1)
 (.skip)))
 AFX
def AGa:AAm := .seq (.block 1 (.seq (.ops [mv_ 27 5,mv_ 28 7,po_ 29 (.idxA 1 (.t 27) (.t 28)),po_ 30 (.load false 1 (.t 29)),so_ 31 (.call 68 [.t 30]),mv_ 8 31] [0,2,4,5,7,8])
 AF9))
 (.ops [mv_ 25 7,po_ 26 (.bin 3 .add (.t 25) (ci_ 1)),mv_ 7 26] [0,2,4,5,7])
def AF5:AAm := .seq (.seq (.ops [mv_ 21 7,mv_ 22 5,po_ 23 (.lenV (.t 22)),po_ 24 (.bin 3 .lss (.t 21) (.t 23))] [0,2,4,5,7,24])
 (.cond (.t 24)
 (.skip)
 (.exit 0)))
 AGa
def AFW:AAm := .block 0 (.ownB 4 [(1,1)] 22 (.loop [0,2,4,5,7] AF5))
def AE3:AAm := .seq (.seq (.ops [mv_ 66 12,po_ 67 (.bin 3 .neq (.t 66) (ci_ 0)),mv_ 68 67,⟨some 69,.p (.mov (.t 11)),some ⟨68,false⟩⟩,⟨some 70,.p (.b2s (.t 69)),some ⟨68,false⟩⟩,⟨some 71,.p (.mov (.t 0)),some ⟨68,false⟩⟩,⟨some 72,.p (.b2s (.t 71)),some ⟨68,false⟩⟩,⟨some 73,.p (.bin 9 .neq (.t 70) (.t 72)),some ⟨68,false⟩⟩,po_ 74 (.pick (.t 68) (.c (.bool true)) (.t 73))] [2,4,74])
 (.cond (.t 74)
 (.seq (.ops [po_ 75 (.build [.val (.string (str [])),.val (.slice none 0 0)] [1,1] []),⟨none,.s (.store 2 (.t 2) (.t 75)),none⟩,po_ 3 (.mov (ci_ 111))] [2,3])
  (.ret))
 (.skip)))
 (.seq (.ops [po_ 76 (.load true 2 (.t 4)),⟨none,.s (.store 2 (.t 2) (.t 76)),none⟩,po_ 3 (.mov (ci_ 0))] [2,3])
 (.ret))
def AFq:AAm := .seq (.ops [po_ 62 (.load true 2 (.t 4)),so_ 63 (.call 15 [.t 62]),mv_ 61 63,po_ 64 (.ext 0 (.t 61)),po_ 65 (.ext 1 (.t 61)),mv_ 11 64,mv_ 12 65] [0,2,4,11,12])
 AE3
def AFa:AAm := .seq (.seq (.ops [po_ 7 (.mov (ci_ 0))] [0,2,4,5,7])
 AFW)
 AFq
def AFu:AAm := .seq (.seq (.ops [mv_ 18 6,po_ 19 (.un .not (.t 18))] [0,2,4,5,19])
 (.cond (.t 19)
 (.seq (.ops [po_ 20 (.load true 2 (.t 4)),⟨none,.s (.store 2 (.t 2) (.t 20)),none⟩,po_ 3 (.mov (ci_ 110))] [2,3])
  (.ret))
 (.skip)))
 AFa
def AFx:AAm := .seq (.ops [mv_ 14 0,so_ 15 (.call 67 [.t 14]),mv_ 13 15,po_ 16 (.ext 0 (.t 13)),po_ 17 (.ext 1 (.t 13)),mv_ 5 16,mv_ 6 17] [0,2,4,5,6])
 AFu
def AFz:AAm := .seq (.ops [so_ 4 (.alloc (.agg [.val (.string (str [])),.val (.slice none 0 0)]))] [0,2,4])
 AFx
def AIv:AAm := .seq (.ops [so_ 2 (.alloc (.agg [.val (.string (str [])),.val (.slice none 0 0)])),po_ 3 (.mov (ci_ 0))] [0,2])
 AFz
def AIn:List VR:=[.cell 2 true 2,.tmp 3]
theorem AQQ:Tryz.f43.body.bind (trC Tryz.prog Tryz.f43.ntmps)=some (er AIv):=by kernel_rfl
theorem AP5:trR Tryz.prog Tryz.f43.results.toList=some AIn:=by kernel_rfl
def AKL:=AAj AF2.eq_1
def AEq:=AAj AFM.eq_1
def ACC:=AAj AF7.eq_1
def ACD:=AAj AFS.eq_1
def AKO:=AAj AFX.eq_1
def AEa:=AAj AF9.eq_1
def AKI:=AAj AGa.eq_1
def AEg:=AAj AF5.eq_1
def AKy:=AAj AFW.eq_1
def ACt:=AAj AE3.eq_1
def AJq:=AAj AFq.eq_1
def AJv:=AAj AFa.eq_1
def ADO:=AAj AFu.eq_1
def AJd:=AAj AFx.eq_1
def AJb:=AAj AFz.eq_1
def ANy:=AAj AIv.eq_1
theorem ACv {K:TV→Prop} {e:Env} {H:List Ob}:res AIn e H K=res [.cell 2 true 2,.tmp 3] e H K:=AAi rfl
def AOm:=ABp 77 Tryz.func43 AQQ AP5 rfl
def AKe:AAm := .seq (.block 1 (.draw 8 [po_ 15 (.fieldA 1 1 (.t 3)),po_ 16 (.load false 1 (.t 15)),po_ 17 (.fieldA 1 1 (.t 1)),po_ 18 (.load false 1 (.t 17)),mv_ 19 4,po_ 20 (.idxA 21 (.t 18) (.t 19)),po_ 21 (.fieldA 0 0 (.t 20)),po_ 22 (.load false 1 (.t 21)),po_ 23 (.fieldA 1 1 (.t 1)),po_ 24 (.load false 1 (.t 23)),mv_ 25 4,po_ 26 (.idxA 21 (.t 24) (.t 25)),po_ 27 (.fieldA 1 1 (.t 26)),po_ 28 (.load true 20 (.t 27)),⟨some 29,.p (.build [.val (.string (str [])),.arr 20 1 [.val (.int .u8 ((0:Nat):Int)),.val (.int .u8 ((0:Nat):Int)),.val (.int .u8 ((0:Nat):Int)),.val (.int .u8 ((0:Nat):Int)),.val (.int .u8 ((0:Nat):Int)),.val (.int .u8 ((0:Nat):Int)),.val (.int .u8 ((0:Nat):Int)),.val (.int .u8 ((0:Nat):Int)),.val (.int .u8 ((0:Nat):Int)),.val (.int .u8 ((0:Nat):Int)),.val (.int .u8 ((0:Nat):Int)),.val (.int .u8 ((0:Nat):Int)),.val (.int .u8 ((0:Nat):Int)),.val (.int .u8 ((0:Nat):Int)),.val (.int .u8 ((0:Nat):Int)),.val (.int .u8 ((0:Nat):Int)),.val (.int .u8 ((0:Nat):Int)),.val (.int .u8 ((0:Nat):Int)),.val (.int .u8 ((0:Nat):Int)),.val (.int .u8 ((0:Nat):Int))],.val (.string (str []))] [1,20,1] [⟨0,.t 22⟩,⟨1,.t 28⟩]),none⟩,⟨some 30,.s (.bslice 22 1 (.agg [.val (.string (str [])),.arr 20 1 [.val (.int .u8 ((0:Nat):Int)),.val (.int .u8 ((0:Nat):Int)),.val (.int .u8 ((0:Nat):Int)),.val (.int .u8 ((0:Nat):Int)),.val (.int .u8 ((0:Nat):Int)),.val (.int .u8 ((0:Nat):Int)),.val (.int .u8 ((0:Nat):Int)),.val (.int .u8 ((0:Nat):Int)),.val (.int .u8 ((0:Nat):Int)),.val (.int .u8 ((0:Nat):Int)),.val (.int .u8 ((0:Nat):Int)),.val (.int .u8 ((0:Nat):Int)),.val (.int .u8 ((0:Nat):Int)),.val (.int .u8 ((0:Nat):Int)),.val (.int .u8 ((0:Nat):Int)),.val (.int .u8 ((0:Nat):Int)),.val (.int .u8 ((0:Nat):Int)),.val (.int .u8 ((0:Nat):Int)),.val (.int .u8 ((0:Nat):Int)),.val (.int .u8 ((0:Nat):Int))],.val (.string (str []))]) [⟨0,.t 29⟩]),none⟩,so_ 31 (.app 22 56 88 (.t 16) (.t 30)),po_ 32 (.fieldA 1 1 (.t 3)),⟨none,.s (.store 1 (.t 32) (.t 31)),none⟩] [1,2,3,4]))
 (.ops [mv_ 13 4,po_ 14 (.bin 3 .add (.t 13) (ci_ 1)),mv_ 4 14] [1,2,3,4])
def AJV:AAm := .seq (.seq (.ops [mv_ 8 4,po_ 9 (.fieldA 1 1 (.t 1)),po_ 10 (.load false 1 (.t 9)),po_ 11 (.lenV (.t 10)),po_ 12 (.bin 3 .lss (.t 8) (.t 11))] [1,2,3,4,12])
 (.cond (.t 12)
 (.skip)
 (.exit 0)))
 AKe
def AJI:AAm := .block 0 (.ownB 3 [(1,1)] 22 (.loop [1,2,3,4] AJV))
def AJy:AAm := .seq (.ops [po_ 33 (.load true 2 (.t 3)),⟨none,.s (.store 2 (.t 2) (.t 33)),none⟩] [2])
 (.ret)
def AJA:AAm := .seq (.seq (.ops [po_ 4 (.mov (ci_ 0))] [1,2,3,4])
 AJI)
 AJy
def AJZ:AAm := .seq (.ops [po_ 5 (.fieldA 0 0 (.t 1)),po_ 6 (.load false 1 (.t 5)),⟨some 7,.p (.build [.val (.string (str [])),.val (.slice none 0 0)] [1,1] [⟨0,.t 6⟩]),none⟩,so_ 3 (.alloc (.agg [.val (.string (str [])),.val (.slice none 0 0)])),⟨none,.s (.store 2 (.t 3) (.t 7)),none⟩] [1,2,3])
 AJA
def AOn:AAm := .seq (.ops [so_ 1 (.box (.t 0)),so_ 2 (.alloc (.agg [.val (.string (str [])),.val (.slice none 0 0)]))] [1,2])
 AJZ
def APw:List VR:=[.cell 2 true 2]
theorem AVL:Tryz.f14.body.bind (trC Tryz.prog Tryz.f14.ntmps)=some (er AOn):=by kernel_rfl
theorem AVx:trR Tryz.prog Tryz.f14.results.toList=some APw:=by kernel_rfl
def APD:=AAj AKe.eq_1
def AHr:=AAj AJV.eq_1
def APf:=AAj AJI.eq_1
def APO:=AAj AJy.eq_1
def AOt:=AAj AJA.eq_1
def APE:=AAj AJZ.eq_1
def ASD:=AAj AOn.eq_1
theorem ASo {K:TV→Prop} {e:Env} {H:List Ob}:res APw e H K=res [.cell 2 true 2] e H K:=AAi rfl
def ATC:=ABp 34 Tryz.func14 AVL AVx rfl
def AEY:AAm := .seq (.ops [mv_ 55 11,mv_ 56 55,⟨some 57,.p (.mov (.t 5)),some ⟨56,true⟩⟩,⟨some 58,.p (.lenV (.t 57)),some ⟨56,true⟩⟩,⟨some 59,.p (.bin 3 .eql (.t 58) (ci_ 0)),some ⟨56,true⟩⟩,po_ 60 (.pick (.t 56) (.t 59) (.c (.bool false))),mv_ 4 60] [4])
 (.ret)
def AFr:AAm := .seq (.seq (.ops [mv_ 53 9,po_ 54 (.bin 3 .neq (.t 53) (ci_ 0))] [5,11,54])
 (.cond (.t 54)
 AEY
 (.skip)))
 (.seq (.ops [mv_ 61 5,so_ 62 (.call 16 [.t 61]),mv_ 12 62] [11,12])
 (.seq (.ops [mv_ 63 11,mv_ 64 63,⟨some 65,.p (.mov (.t 12)),some ⟨64,true⟩⟩,po_ 66 (.pick (.t 64) (.t 65) (.c (.bool false))),mv_ 4 66] [4])
 (.ret)))
def AFt:AAm := .seq (.ops [mv_ 51 1,so_ 52 (.call 16 [.t 51]),mv_ 11 52] [5,9,11])
 AFr
def AFd:AAm := .seq (.seq (.ops [mv_ 43 10,po_ 44 (.un .not (.t 43)),mv_ 45 44,⟨some 46,.p (.mov (.t 6)),some ⟨45,false⟩⟩,⟨some 47,.s (.call 11 [.t 46]),some ⟨45,false⟩⟩,⟨some 48,.p (.mov (.t 9)),some ⟨45,false⟩⟩,⟨some 49,.p (.bin 3 .neq (.t 47) (.t 48)),some ⟨45,false⟩⟩,po_ 50 (.pick (.t 45) (.c (.bool true)) (.t 49))] [1,5,9,50])
 (.cond (.t 50)
 (.seq (.ops [po_ 4 (.mov (.c (.bool false)))] [4])
  (.ret))
 (.skip)))
 AFt
def AFp:AAm := .seq (.ops [mv_ 40 5,mv_ 41 8,so_ 42 (.call 10 [.t 40,.t 41]),mv_ 10 42] [1,5,6,9,10])
 AFd
def AFo:AAm := .seq (.ops [po_ 36 (.load true 2 (.t 7)),so_ 37 (.call 15 [.t 36]),mv_ 35 37,po_ 38 (.ext 0 (.t 35)),po_ 39 (.ext 1 (.t 35)),mv_ 8 38,mv_ 9 39] [1,5,6,8,9])
 AFp
def AFg:AAm := .seq (.ops [po_ 33 (.load true 2 (.t 2)),so_ 34 (.call 14 [.t 33]),so_ 7 (.alloc (.agg [.val (.string (str [])),.val (.slice none 0 0)])),⟨none,.s (.store 2 (.t 7) (.t 34)),none⟩] [1,5,6,7])
 AFo
def AFC:AAm := .seq (.ops [po_ 29 (.load true 2 (.t 2)),so_ 30 (.call 13 [.t 29]),mv_ 28 30,po_ 31 (.ext 0 (.t 28)),po_ 32 (.ext 1 (.t 28)),mv_ 5 31,mv_ 6 32] [1,2,5,6])
 AFg
def AFk:AAm := .seq (.seq (.ops [po_ 13 (.fieldA 1 1 (.t 2)),po_ 14 (.load false 1 (.t 13)),po_ 15 (.lenV (.t 14)),po_ 16 (.bin 3 .gtr (.t 15) (ci_ 60)),mv_ 17 16,⟨some 18,.p (.mov (.t 1)),some ⟨17,false⟩⟩,⟨some 19,.p (.lenV (.t 18)),some ⟨17,false⟩⟩,⟨some 20,.p (.bin 3 .gtr (.t 19) (ci_ 6000)),some ⟨17,false⟩⟩,po_ 21 (.pick (.t 17) (.c (.bool true)) (.t 20)),mv_ 22 21,⟨some 23,.p (.fieldA 0 0 (.t 2)),some ⟨22,false⟩⟩,⟨some 24,.p (.load false 1 (.t 23)),some ⟨22,false⟩⟩,⟨some 25,.p (.lenS (.t 24)),some ⟨22,false⟩⟩,⟨some 26,.p (.bin 3 .gtr (.t 25) (ci_ 6000)),some ⟨22,false⟩⟩,po_ 27 (.pick (.t 22) (.c (.bool true)) (.t 26))] [1,2,27])
 (.cond (.t 27)
 (.seq (.ops [po_ 4 (.mov (.c (.bool true)))] [4])
  (.ret))
 (.skip)))
 AFC
def AHp:AAm := .seq (.ops [so_ 2 (.box (.t 0)),po_ 4 (.mov (.c (.bool false)))] [1,2])
 AFk
def AHC:List VR:=[.tmp 4]
theorem APR:Tryz.f4.body.bind (trC Tryz.prog Tryz.f4.ntmps)=some (er AHp):=by kernel_rfl
theorem AOX:trR Tryz.prog Tryz.f4.results.toList=some AHC:=by kernel_rfl
def AI9:=AAj AEY.eq_1
def ADX:=AAj AFr.eq_1
def ADA:=AAj AFt.eq_1
def ADM:=AAj AFd.eq_1
def ADS:=AAj AFp.eq_1
def ADN:=AAj AFo.eq_1
def AD1:=AAj AFg.eq_1
def AJa:=AAj AFC.eq_1
def AJh:=AAj AFk.eq_1
def AMK:=AAj AHp.eq_1
theorem ABn {K:TV→Prop} {e:Env} {H:List Ob}:res AHC e H K=res [.tmp 4] e H K:=AAi rfl
def ANo:=ABp 67 Tryz.func4 APR AOX rfl
def AIs:AAm := .seq (.block 1 (.seq (.draw 22 [po_ 56 (.fieldA 1 1 (.t 4)),po_ 57 (.load false 1 (.t 56)),mv_ 58 9,po_ 59 (.idxA 21 (.t 57) (.t 58)),po_ 60 (.fieldA 0 0 (.t 59)),po_ 61 (.load false 1 (.t 60)),po_ 62 (.fieldA 1 1 (.t 7)),po_ 63 (.load false 1 (.t 62)),mv_ 64 9,po_ 65 (.idxA 22 (.t 63) (.t 64)),po_ 66 (.fieldA 0 0 (.t 65)),po_ 67 (.load false 1 (.t 66)),po_ 68 (.bin 9 .neq (.t 61) (.t 67)),mv_ 69 68,⟨some 70,.p (.fieldA 1 1 (.t 4)),some ⟨69,false⟩⟩,⟨some 71,.p (.load false 1 (.t 70)),some ⟨69,false⟩⟩,⟨some 72,.p (.mov (.t 9)),some ⟨69,false⟩⟩,⟨some 73,.p (.idxA 21 (.t 71) (.t 72)),some ⟨69,false⟩⟩,⟨some 74,.p (.fieldA 1 1 (.t 73)),some ⟨69,false⟩⟩,⟨some 75,.p (.load true 20 (.t 74)),some ⟨69,false⟩⟩,⟨some 76,.p (.fieldA 1 1 (.t 7)),some ⟨69,false⟩⟩,⟨some 77,.p (.load false 1 (.t 76)),some ⟨69,false⟩⟩,⟨some 78,.p (.mov (.t 9)),some ⟨69,false⟩⟩,⟨some 79,.p (.idxA 22 (.t 77) (.t 78)),some ⟨69,false⟩⟩,⟨some 80,.p (.fieldA 1 1 (.t 79)),some ⟨69,false⟩⟩,⟨some 81,.p (.load true 20 (.t 80)),some ⟨69,false⟩⟩,⟨some 82,.p (.gen (.eqA 20 true) [.t 75,.t 81]),some ⟨69,false⟩⟩,po_ 83 (.pick (.t 69) (.c (.bool true)) (.t 82))] [4,7,9,83])
 (.cond (.t 83)
 (.seq (.ops [po_ 2 (.mov (.c (.bool false)))] [2])
  (.ret))
 (.skip))))
 (.ops [mv_ 54 9,po_ 55 (.bin 3 .add (.t 54) (ci_ 1)),mv_ 9 55] [4,7,9])
def AH8:AAm := .seq (.seq (.ops [mv_ 49 9,po_ 50 (.fieldA 1 1 (.t 4)),po_ 51 (.load false 1 (.t 50)),po_ 52 (.lenV (.t 51)),po_ 53 (.bin 3 .lss (.t 49) (.t 52))] [4,7,9,53])
 (.cond (.t 53)
 (.skip)
 (.exit 0)))
 AIs
def AIi:AAm := .block 0 (.loop [4,7,9] AH8)
def AIB:AAm := .seq (.ops [po_ 2 (.mov (.c (.bool true)))] [2])
 (.ret)
def AHY:AAm := .seq (.seq (.ops [po_ 9 (.mov (ci_ 0))] [4,7,9])
 AIi)
 AIB
def AIS:AAm := .seq (.seq (.ops [mv_ 25 6,po_ 26 (.un .not (.t 25)),mv_ 27 26,⟨some 28,.p (.mov (.t 5)),some ⟨27,false⟩⟩,⟨some 29,.s (.call 11 [.t 28]),some ⟨27,false⟩⟩,⟨some 30,.p (.mov (.t 8)),some ⟨27,false⟩⟩,⟨some 31,.p (.bin 3 .neq (.t 29) (.t 30)),some ⟨27,false⟩⟩,po_ 32 (.pick (.t 27) (.c (.bool true)) (.t 31)),mv_ 33 32,⟨some 34,.p (.fieldA 0 0 (.t 4)),some ⟨33,false⟩⟩,⟨some 35,.p (.load false 1 (.t 34)),some ⟨33,false⟩⟩,⟨some 36,.p (.fieldA 0 0 (.t 7)),some ⟨33,false⟩⟩,⟨some 37,.p (.load false 1 (.t 36)),some ⟨33,false⟩⟩,⟨some 38,.p (.bin 9 .neq (.t 35) (.t 37)),some ⟨33,false⟩⟩,po_ 39 (.pick (.t 33) (.c (.bool true)) (.t 38)),mv_ 40 39,⟨some 41,.p (.fieldA 1 1 (.t 4)),some ⟨40,false⟩⟩,⟨some 42,.p (.load false 1 (.t 41)),some ⟨40,false⟩⟩,⟨some 43,.p (.lenV (.t 42)),some ⟨40,false⟩⟩,⟨some 44,.p (.fieldA 1 1 (.t 7)),some ⟨40,false⟩⟩,⟨some 45,.p (.load false 1 (.t 44)),some ⟨40,false⟩⟩,⟨some 46,.p (.lenV (.t 45)),some ⟨40,false⟩⟩,⟨some 47,.p (.bin 3 .neq (.t 43) (.t 46)),some ⟨40,false⟩⟩,po_ 48 (.pick (.t 40) (.c (.bool true)) (.t 47))] [4,7,48])
 (.cond (.t 48)
 (.seq (.ops [po_ 2 (.mov (.c (.bool false)))] [2])
  (.ret))
 (.skip)))
 AHY
def AIP:AAm := .seq (.ops [mv_ 21 0,so_ 22 (.call 43 [.t 21]),mv_ 20 22,po_ 23 (.ext 0 (.t 20)),po_ 24 (.ext 1 (.t 20)),so_ 7 (.alloc (.agg [.val (.string (str [])),.val (.slice none 0 0)])),⟨none,.s (.store 2 (.t 7) (.t 23)),none⟩,mv_ 8 24] [4,5,6,7,8])
 AIS
def AIR:AAm := .seq (.ops [mv_ 17 3,mv_ 18 0,so_ 19 (.call 19 [.t 17,.t 18]),mv_ 6 19] [0,4,5,6])
 AIP
def AI2:AAm := .seq (.ops [mv_ 13 3,so_ 14 (.call 42 [.t 13]),mv_ 12 14,po_ 15 (.ext 0 (.t 12)),po_ 16 (.ext 1 (.t 12)),so_ 4 (.alloc (.agg [.val (.string (str [])),.val (.slice none 0 0)])),⟨none,.s (.store 2 (.t 4) (.t 15)),none⟩,mv_ 5 16] [0,3,4,5])
 AIR
def AHi:AAm := .seq (.ops [mv_ 10 0,so_ 11 (.call 17 [.t 10]),mv_ 3 11] [0,3])
 AI2
def ANl:AAm := .seq (.ops [po_ 2 (.mov (.c (.bool false)))] [0])
 AHi
def ANd:List VR:=[.tmp 2]
theorem AT8:Tryz.f16.body.bind (trC Tryz.prog Tryz.f16.ntmps)=some (er ANl):=by kernel_rfl
theorem ATP:trR Tryz.prog Tryz.f16.results.toList=some ANd:=by kernel_rfl
def AN7:=AAj AIs.eq_1
def AC5:=AAj AH8.eq_1
def AGG:=AAj AIi.eq_1
def AG2:=AAj AIB.eq_1
def AGJ:=AAj AHY.eq_1
def AGL:=AAj AIS.eq_1
def AGK:=AAj AIP.eq_1
def AGI:=AAj AIR.eq_1
def AN1:=AAj AI2.eq_1
def AMy:=AAj AHi.eq_1
def ARV:=AAj ANl.eq_1
theorem AKf {K:TV→Prop} {e:Env} {H:List Ob}:res ANd e H K=res [.tmp 2] e H K:=AAi rfl
def ASR:=ABp 84 Tryz.func16 AT8 ATP rfl
end
section
open Go.RowKit
section
variable [AAE] {P:Program} {PP:Value→List Ob→Prop} {e:Env} {H:List Ob} {r:List VO} {Ss:SsT}
theorem Beh {d s:Nat} {o:VOp} {b:Bool} {K:Env→List Ob→Prop}:ATt P PP Ss (⟨some d,o,some (s,b)⟩::r) K e H=ARX e s fun e q=>Gd q b (pvopS P PP Ss o e H (fun x H=>ATt P PP Ss r K ((d,x)::e) H)) (ATt P PP Ss r K ((d,.val undef)::e) H):=by
 show AHf (pvopS P PP Ss) _ K e H=_
 rw [AHf]
 refine congrArg (ARX e s) ?_; funext e q; cases q<;>rfl
end
theorem A5x {Ss:List Nat} {e:Env} {H H':List Ob} {n:Nat} (h:∀ i,i≠n→H'[i]?=H[i]?) (hs:∀ t∈Ss,A66 (get e t)≠some n):AMu Ss e H H':=fun t ht id hg=>h id fun e=>hs t ht (by rw [←e]; exact hg)
theorem ASq {H T:List Ob} {i j:Nat} {o:Ob} (h:i<H.length) (hne:i≠j):(H.set j o++T)[i]?=H[i]?:=by rw [List.getElem?_append_left (by simpa using h),List.getElem?_set_ne (Ne.symm hne)]
theorem AS2 {H T:List Ob} {j:Nat} {o:Ob} (h:j<H.length):(H.set j o++T)[j]?=some o:=by rw [List.getElem?_append_left (by simpa using h),List.getElem?_set_self h]
theorem ga {H T:List Ob} {i:Nat} (h:i<H.length):(H++T)[i]?=H[i]?:=List.getElem?_append_left h
theorem BdT (y z:TV):List.take 1 ((List.replicate 1 z).set 0 y)=[y]:=by simp
theorem AMq (l:List UInt8):(str l).toList=l:=by rw [Lib.toList_data]; rfl
theorem Be5 {t:TypeId} {a b:List UInt8}:ABW t .lss (.string (str a)) (.string (str b))=some (.bool (Op.bytesLess a b)):=by
 rw [ABW,binOp_string_lss,AMq,AMq]; rfl
theorem Bao {t:TypeId} {a b:List UInt8}:ABW t .geq (.string (str a)) (.string (str b))=some (.bool (!Op.bytesLess a b)):=by
 have e:binOp .geq t (.string (str a)) (.string (str b))=pure (.bool !(Op.bytesLess (str a).toList (str b).toList)):=by simp [binOp,Op.stringOp]
 rw [ABW,e,AMq,AMq]; rfl
end
section
open Go.RowKit
variable [AAE] [ADH]
noncomputable def nmB (s:List UInt8):Bool:=@decide (A0M s) (Classical.propDecidable _)
theorem AGq {s:List UInt8}:nmB s=true↔A0M s:=by unfold nmB; rw [@decide_eq_true_iff]
theorem A2q (s:List UInt8) (hs:s.length≤4000000):AAR Tryz.prog 40 [ts s] (fun x=>x=tb (nmB s)):=by
 refine (AXQ s hs).mono ?_
 rintro x ⟨b,rfl,hb⟩
 rw [←AGq] at hb
 cases b<;>cases h:nmB s<;>simp_all
def AYY (o:AL2):TV := .agg [ts o.head,.sl 21 (o.refs.map ATx)]
def AN6 (o:AL2):Prop:=o.head.length≤2000000∧o.refs.length≤20000∧∀ r∈o.refs,r.1.length≤2000000∧r.2.length=20
def Ba7 (o:AL2) (r:TV):Prop:=(ADo o→r = .tup [slB (AHl o),.val .nilIface])∧(¬ ADo o→r = .tup [ANb,eno 111])
def AYr (o:AL2) (i:Nat):Prop:=(ASI o.head∧o.refs.length≤500)∧∀ k,k<i→ATN o.refs k
theorem APz {o:AL2} {i:Nat}:AYr o (i+1)↔AYr o i∧ATN o.refs i:=by
 unfold AYr
 constructor
 ·rintro ⟨h,k⟩
  exact ⟨⟨h,fun j hj=>k j (by omega)⟩,k i (by omega)⟩
 ·rintro ⟨⟨h,k⟩,m⟩
  refine ⟨h,fun j hj => ?_⟩
  by_cases e:j=i
  ·subst e; exact m
  ·exact k j (by omega)
theorem AY5 {o:AL2}:AYr o o.refs.length↔ADo o:=by unfold AYr ADo; rw [and_assoc]
theorem AZc {l:List A3v} {i:Nat} {r:A3v} (h:l[i]?=some r):ATN l i↔A0M r.1∧(i=0∨∃ q,l[i - 1]?=some q∧Op.bytesLess q.1 r.1=true):=by
 unfold ATN
 constructor
 ·exact fun k=>k r h
 ·intro k r' h'
  rw [h] at h'
  cases h'
  exact k
theorem Bcz {o:AL2} (hf:AN6 o) {Q:VEx→Env→List Ob→Prop} {E:Env} {H:List Ob} (h0:H[0]?=some (.obj 0 (AYY o))) (ht:TSt H (AGm (ABR o.head)) (ASI o.head) 3000015)
  (hQ:∀ x y H',AYP H' (AHl o) (ADo o) x y→Q .ret [(2,x),(3,y)] H') :
  vwp Tryz.prog ACW Q ((1,.op 0 0 [])::(4,.op 1 0 [])::E) H:=by
 obtain ⟨hd,rs⟩:=o
 obtain ⟨f1,f2,f3⟩:=hf
 simp only at *
 unfold AYY at h0
 simp only at h0
 simp -dsimp (disch:=first | assumption | omega | (simp only [AAl];try omega)) only [↓AAp,AAk,AAn,AAo,eq_self,Nat.reduceEqDiff,↓reduceIte,Nat.reduceAdd,h0,↓AKD]
 refine A8i ht fun H1 k1 k2 k3 => ?_
 have h1:H1[0]?=some (.obj 0 (.agg [ts hd,.sl 21 (rs.map ATx)])):=(k2 0 (by omega)).trans h0
 simp -dsimp (disch:=first | assumption | omega | (simp only [AAl];try omega)) only [↓AAp,AAk,AAn,AAo,eq_self,Nat.reduceEqDiff,↓reduceIte,Nat.reduceAdd,h1,↓AKP,↓AKB]
 refine ACS (fun q e G=>∃ (i:Nat),q=rs.length - i∧i≤rs.length∧TSt G (AGm (ABR hd++(rs.take i).map AI5)) (AYr ⟨hd,rs⟩ i) (3000015+i*3000015)∧G[0]?=some (.obj 0 (.agg [ts hd,.sl 21 (rs.map ATx)]))∧H1.length≤G.length∧e=[(1,.op 0 0 []),(4,.op 1 0 []),(29,.sl 21 (rs.map ATx)),(30,i64 (rs.length:Int)),(31,i64 (i:Int))]) rs.length ?_ ?_
 ·refine ⟨0,rfl,Nat.zero_le _,?_,h1,Nat.le_refl _,by simp [forget,get]⟩
  have e:AGm (ABR hd++(rs.take 0).map AI5)=AGm (ABR hd):=by simp
  rw [e]
  refine (k1.iff ?_).le (Nat.le_add_right _ _)
  simp [AYr]
 rintro q e G ⟨i,rfl,hi,hT,hG,hGn,rfl⟩
 by_cases hil:i<rs.length
 case neg =>
  have hi2:i=rs.length:=by omega
  subst hi2
  rw [List.take_length] at hT
  simp -dsimp (disch:=first | assumption | omega | (simp only [AAl];try omega)) only [↓AAp,AAk,AAn,AAo,eq_self,Nat.reduceEqDiff,↓reduceIte,↓AEk,↓AEj,↓AKu]
  refine BaM hT (by omega) fun H2 m1 m2 m3 => ?_
  simp -dsimp (disch:=first | assumption | omega | (simp only [AAl];try omega)) only [↓AAp,AAk,AAn,AAo,eq_self,Nat.reduceEqDiff,↓reduceIte]
  refine Ben m1 (by simp [AKJ]) fun x y hd' => ?_
  simp -dsimp (disch:=first | assumption | omega | (simp only [AAl];try omega)) only [↓AAp,AAk,AAn,AAo,eq_self,Nat.reduceEqDiff,↓reduceIte]
  refine hQ x y H2 ?_
  have e:AGm (ABR hd++rs.map AI5)++AKJ=AHl ⟨hd,rs⟩:=rfl
  rw [e] at hd'
  unfold AYP at *
  rw [←AY5]
  exact hd'
 obtain ⟨⟨nm,id⟩,hr⟩:∃ r,rs[i]?=some r:=⟨_,List.getElem?_eq_getElem hil⟩
 have hrm:=f3 _ (List.mem_of_getElem? hr)
 simp only at hrm
 obtain ⟨hnl,h20⟩:=hrm
 have hg:(rs.map ATx)[i]?=some (.agg [ts nm,.arr 20 1 (id.map by8)]):=by rw [List.getElem?_map,hr]; rfl
 have h20':(id.map by8).length=20:=by rw [List.length_map]; exact h20
 have hra:=AZc hr
 have hsn:rs.take (i+1)=rs.take i++[(nm,id)]:=by rw [List.take_add_one,hr]; rfl
 have hGl:=(List.getElem?_eq_some_iff.1 hG).1
 have hA:∀ T:List Ob,(G++T)[0]?=some (.obj 0 (.agg [ts hd,.sl 21 (rs.map ATx)])):=fun T=>by rw [List.getElem?_append_left hGl]; exact hG
 simp -dsimp (disch:=first | assumption | omega | (simp only [AAl];try omega)) only [↓AAp,AAk,AAn,AAo,eq_self,Nat.reduceEqDiff,Nat.reduceMod,↓reduceIte,Nat.reduceAdd,hg,↓AEk,↓AEj,↓AKK,↓AKN]
 refine ⟨_,(A2q nm (by omega)).calls rfl fun r hr=>⟨hr,rfl⟩,?_⟩
 have h3:nmB nm=false∨(nmB nm=true∧i=0)∨(nmB nm=true∧∃ j,i=j+1):=by
  cases nmB nm
  ·exact .inl rfl
  ·cases i with
   | zero=>exact .inr (.inl ⟨rfl,rfl⟩)
   | succ j=>exact .inr (.inr ⟨rfl,j,rfl⟩)
 have hTg:=hT.grow [Ob.obj 0 (.agg [ts nm,.arr 20 1 (id.map by8)])]
 have hGk:(G++[Ob.obj 0 (.agg [ts nm,.arr 20 1 (id.map by8)])])[G.length]?=some (.obj 0 (.agg [ts nm,.arr 20 1 (id.map by8)])):=by simp
 have hG1:1<G.length:=hT.lt
 rcases h3 with hnb | ⟨hnb,hi0⟩ | ⟨hnb,j,hj⟩
 case' inl =>
  rw [hnb]
  have hb:AYr ⟨hd,rs⟩ i∧false=true↔AYr ⟨hd,rs⟩ (i+1):=by
   rw [APz,hra,←AGq,hnb]; simp
  simp -dsimp (disch:=first | assumption | omega | (simp only [AAl];try omega)) only [↓AAp,AAk,AAn,AAo,eq_self,Nat.reduceEqDiff,↓reduceIte,↓Beh]
 case' inr.inl =>
  rw [hnb]
  have hb:AYr ⟨hd,rs⟩ i∧true=true↔AYr ⟨hd,rs⟩ (i+1):=by
   rw [APz,hra,←AGq,hnb]; simp [hi0]
  simp -dsimp (disch:=first | assumption | omega | (simp only [AAl];try omega)) only [↓AAp,AAk,AAn,AAo,eq_self,Nat.reduceEqDiff,↓reduceIte,↓Beh,hi0]
 case' inr.inr =>
  rw [hnb]
  obtain ⟨⟨qn,qi⟩,hq⟩:∃ r,rs[j]?=some r:=⟨_,List.getElem?_eq_getElem (by omega)⟩
  have hqm:=f3 _ (List.mem_of_getElem? hq)
  have hq20:(qi.map by8).length=20:=by rw [List.length_map]; exact hqm.2
  have hgq:(rs.map ATx)[j]?=some (.agg [ts qn,.arr 20 1 (qi.map by8)]):=by rw [List.getElem?_map,hq]; rfl
  have hb:AYr ⟨hd,rs⟩ i∧Op.bytesLess qn nm=true↔AYr ⟨hd,rs⟩ (i+1):=by
   rw [APz,hra,←AGq,hnb,hj]; simp [hq]
  have hj0:¬ i=0:=by omega
  have hj1:i - 1=j:=by omega
  simp -dsimp (disch:=first | assumption | omega | (simp only [AAl];try omega)) only [↓AAp,AAk,AAn,AAo,eq_self,Nat.reduceEqDiff,↓reduceIte,Nat.reduceAdd,↓Beh,hA,hGk,hj0,hj1,hgq,Be5]
 all_goals
  refine AAs.callsP (A8i hTg fun H2 m1 m2 m3=>⟨?_,?_⟩)
  ·have m1':=m1.iff hb
   have m3':H2.length=G.length+1:=by simpa using m3
   have hK:H2[G.length]?=some (.obj 0 (.agg [ts nm,.arr 20 1 (id.map by8)])):=(m2 _ (by omega)).trans hGk
   have h20d:H2[0]?=some (.obj 0 (.agg [ts hd,.sl 21 (rs.map ATx)])):=(m2 0 (by omega)).trans (hA _)
   simp -dsimp (disch:=first | assumption | omega | (simp only [AAl];try omega)) only [↓AAp,AAk,AAn,AAo,eq_self,Nat.reduceEqDiff,↓reduceIte,Nat.reduceAdd,hK]
   refine ⟨_,(Bf7 id h20).calls rfl fun r hr=>⟨hr,rfl⟩,?_⟩
   simp -dsimp (disch:=first | assumption | omega | (simp only [AAl];try omega)) only [↓AAp,AAk,AAn,AAo,eq_self,Nat.reduceEqDiff,↓reduceIte,Nat.reduceLeDiff]
   have hcat:(((List.replicate 2 (TV.val (Value.string (str [])))).set 0 (TV.val (Value.string (str (ABt id))))).set 1 (ts nm))=(AI5 (nm,id)).map ts:=rfl
   rw [hcat]
   refine AV7 (Bfx (ws:=AI5 (nm,id)) (m1'.grow _) (by simp [AI5]) (by simp [AI5]) (by simp [AI5]) (by unfold AI5; rw [ASi,ASf]; simp [AEX]; omega) (by omega) fun H3 n1 n2 n3 => ?_)
   simp -dsimp (disch:=first | assumption | omega | (simp only [AAl];try omega)) only [↓AAp,AAk,AAn,AAo,eq_self,Nat.reduceEqDiff,↓reduceIte]
   rw [List.length_append,List.length_singleton] at n3
   refine AAC (rs.length - (i+1)) (by omega) (by omega) ⟨i+1,rfl,by omega,?_,?_,by omega,by simp [forget,get]⟩
   ·rw [hsn,List.map_append,←List.append_assoc,AYS]
    refine (TSt.le ?_ (Nat.le_of_eq (by omega:3000015+i*3000015+3000015=3000015+(i+1)*3000015)))
    rw [List.map_cons,List.map_nil,ASh]
    exact n1
   ·rw [n2,List.getElem?_append_left (by omega)]; exact h20d
  ·change AMu [37,44,49,51] _ _ _
   refine A5x m2 fun t ht => ?_
   simp only [List.mem_cons,List.mem_nil_iff,or_false] at ht
   rcases ht with rfl | rfl | rfl | rfl<;>simp [get,A66]<;>omega
theorem ASu (o:AL2) (hf:AN6 o):AHk Tryz.prog 13 [AYY o] (Ba7 o):=by
 refine AAs.toFreshV (AOQ (by simp) ?_)
 obtain ⟨hd,rs⟩:=o
 have hf0:=hf
 obtain ⟨f1,f2,f3⟩:=hf
 simp only at f1 f2 f3
 have fin:∀ x y H',AYP H' (AHl ⟨hd,rs⟩) (ADo ⟨hd,rs⟩) x y→AXL AEK (fun x H'=>AA2 (frs H' x) (Ba7 ⟨hd,rs⟩)) .ret [(2,x),(3,y)] H':=by
  rintro x y H' (⟨h1,⟨j,v,rfl,hj⟩,rfl⟩ | ⟨h1,rfl,rfl⟩)
  ·have hkt:((AHl ⟨hd,rs⟩).map by8).take (AHl ⟨hd,rs⟩).length=(AHl ⟨hd,rs⟩).map by8:=List.take_of_length_le (by simp)
   simp -dsimp (disch:=first | assumption | omega | (simp only [AAl];try omega)) only [↓AAp,AAk,AAn,AAo,eq_self,Nat.reduceEqDiff,↓reduceIte,hj,hkt,↓AGD]
   exact ⟨fun _=>rfl,fun h=>absurd h1 h⟩
  ·simp -dsimp (disch:=first | assumption | omega | (simp only [AAl];try omega)) only [↓AAp,AAk,AAn,AAo,eq_self,Nat.reduceEqDiff,↓reduceIte,↓AGD]
   exact ⟨fun h=>absurd h h1,fun _=>rfl⟩
 by_cases h0:hd=[]
 ·subst h0
  simp -dsimp (disch:=first | assumption | omega | (simp only [AAl];try omega)) only [↓AAp,AAk,AAn,AAo,eq_self,Nat.reduceEqDiff,↓reduceIte,AYY,↓AGR,↓ADV,↓ADy]
  exact Bcz (o:=⟨[],rs⟩) hf0 rfl ((TSt.new.iff (by simp [ASI])).le (by omega)) fin
 ·simp -dsimp (disch:=first | assumption | omega | (simp only [AAl];try omega)) only [↓AAp,AAk,AAn,AAo,eq_self,Nat.reduceEqDiff,↓reduceIte,AYY,h0,↓AGR,↓ADV,↓ADy,↓AKG]
  refine (A2q hd (by omega)).calls rfl fun r hr => ?_
  subst hr
  simp -dsimp (disch:=first | assumption | omega | (simp only [AAl];try omega)) only [↓AAp,AAk,AAn,AAo,eq_self,Nat.reduceEqDiff,↓reduceIte]
  refine A8i (l:=[]) (ok:=True) (n:=0) TSt.new fun H1 m1 m2 m3 => ?_
  have h10:H1[0]?=some (.obj 0 (.agg [ts hd,.sl 21 (rs.map ATx)])):=m2 0 (by omega)
  have hl1:1<H1.length:=m1.lt
  simp -dsimp (disch:=first | assumption | omega | (simp only [AAl];try omega)) only [↓AAp,AAk,AAn,AAo,eq_self,Nat.reduceEqDiff,↓reduceIte,Nat.reduceLeDiff,h10]
  have hcat:(((List.replicate 2 (TV.val (Value.string (str [])))).set 0 (TV.val (Value.string (str [104,101,97,100])))).set 1 (ts hd))=([ATR,hd]:List (List UInt8)).map ts:=rfl
  rw [hcat]
  refine AV7 (Bfx (ws:=[ATR,hd]) (m1.grow _) (by simp) (by simp) (by simp) (by rw [ASi,ASf]; simp [ATR]; omega) (by omega) fun H3 n1 n2 n3 => ?_)
  simp -dsimp (disch:=first | assumption | omega | (simp only [AAl];try omega)) only [↓AAp,AAk,AAn,AAo,eq_self,Nat.reduceEqDiff,↓reduceIte]
  refine Bcz (o:=⟨hd,rs⟩) hf0 ?_ ?_ fin
  ·rw [n2,List.getElem?_append_left (by omega)]; exact h10
  ·have e:AGm (ABR hd)=[]++AA7 (AL8 [ATR,hd]):=by unfold ABR; rw [if_neg h0,ASh]; rfl
   rw [e]
   refine (n1.iff ?_).le (by omega)
   rw [AGq]
   simp [ASI,h0]
end
section
open Go.RowKit
variable [AAE]
def A6U (H:List Ob) (l:List UInt8) (x:TV) (H':List Ob):Prop:=∃ j v,x = .os 1 j v [] 0 l.length l.length∧H'[j]?=some (.obj v (.arr l.length 1 (l.map by8)))∧H.length≤j∧H.length≤H'.length∧∀ i,i<H.length→H'[i]?=H[i]?
theorem Bav {x:List UInt8} (hx:x.length≤1000) {H:List Ob} {id ver:Nat} (h2:H[id]?=some (.obj ver (.arr x.length 1 (x.map by8)))) :
  AAs Tryz.prog 58 [.os 1 id ver [] 0 x.length x.length] H (A6U H (AA7 x)):=by
 refine AUQ (by simp) ?_
 have h4:(APS (x.length+4)).length=4:=rfl
 have hl2:id<H.length:=(List.getElem?_eq_some_iff.1 h2).1
 have hlt:(x.map by8).take x.length=x.map by8:=List.take_of_length_le (by simp)
 unfold AA7
 by_cases h0:x.length=0
 ·rw [if_pos h0]
  simp -dsimp (disch:=first | assumption | omega | (simp only [AAl];try omega)) only [↓AAp,AAk,AAn,AAo,eq_self,↓reduceIte,reduceCtorEq,Nat.reduceLeDiff,↓AM7,↓AIA,↓AMV]
  exact ⟨H.length,0,rfl,by simp [AKJ,List.replicate],Nat.le_refl _,by simp,fun i hi=>List.getElem?_append_left hi⟩
 ·rw [if_neg h0]
  have h2a:∀ T:List Ob,(H++T)[id]?=some (.obj ver (.arr x.length 1 (x.map by8))):=fun T=>by rw [List.getElem?_append_left hl2]; exact h2
  simp -dsimp (disch:=first | assumption | omega | (simp only [AAl];try omega)) only [↓AAp,AAk,AAn,AAo,eq_self,↓reduceIte,reduceCtorEq,↓AM7,↓AIA]
  refine (AVj (x.length+4) (by omega)).calls rfl fun r hr => ?_
  subst hr
  simp -dsimp (disch:=first | assumption | omega | (simp only [AAl];try omega)) only [↓AAp,AAk,AAn,AAo,eq_self,Nat.reduceEqDiff,↓reduceIte,reduceCtorEq,Nat.reduceLeDiff,AAD,h4,h2a,hlt,↓AMV]
  have e:List.take 4 ((APS (x.length+4)).map by8)++x.map by8=(APS (x.length+4)++x).map by8:=by
   rw [List.take_of_length_le (by simp [AZn]),List.map_append]
  refine ⟨H.length,1,by simp [h4],?_,Nat.le_refl _,by simp,fun i hi => ?_⟩
  ·simp [h4]
  ·rw [List.getElem?_append_left hi]
theorem A6L {s:List UInt8} (hs:s.length≤999) {H:List Ob}:AAs Tryz.prog 34 [ts s] H (A6U H (AA7 (s++[10]))):=by
 refine AVh (by simp) ?_
 have hl1:(s++[(10:UInt8)]).length≤1000:=by simp; omega
 have hcat:ABW 9 BinOp.add (.string (str s)) (.string (str [10]))=some (.string (str (s++[10]))):=AXN (by simp; omega)
 generalize s++[(10:UInt8)]=x at *
 have hx9:x.length≤9223372036854775807:=by omega
 simp -dsimp (disch:=first | assumption | omega | (simp only [AAl];try omega)) only [↓AAp,AAk,AAn,AAo,eq_self,↓reduceIte,reduceCtorEq,hcat,AAD,↓AUb]
 refine AV7 (AAs.mono (Bav hl1 (by simp)) ?_)
 rintro y H2 ⟨j,v,rfl,k1,k2,k3,k4⟩
 simp -dsimp (disch:=first | assumption | omega | (simp only [AAl];try omega)) only [↓AAp,AAk,AAn,AAo,eq_self,↓reduceIte,↓ATA]
 rw [List.length_append,List.length_singleton] at k2 k3
 exact ⟨j,v,rfl,k1,by omega,by omega,fun i hi=>by rw [k4 i (by simp; omega),List.getElem?_append_left hi]⟩
end
section
open Go.RowKit
variable [AAE]
def APL (s:List UInt8) (f i:Nat):Prop:=f≤i∧i≤s.length+1∧(∀ j c,j<i→s[j]?=some c→AMH c=true)∧(∀ j,j+1<i→¬ (s[j]?=some 46∧s[j+1]?=some 46)∧¬ (s[j]?=some 64∧s[j+1]?=some 123)) ∧
 ((f=s.length+1∧i=s.length+1∧(ABo 47 s).all ABN=true)∨(i≤s.length∧(ABo 47 s).all ABN=(ABo 47 (s.drop f)).all ABN∧47∉(s.drop f).take (i - f)))
theorem APL.sep {s:List UInt8} {f i:Nat} (h:APL s f i) (hi:i≤s.length) (hsep:i=s.length∨s[i]?=some 47):(ABo 47 s).all ABN=(ABN ((s.drop f).take (i - f)) && (decide (i=s.length) || (ABo 47 (s.drop (i+1))).all ABN)):=by
 obtain ⟨h1,h2,h3,h4,h5⟩:=h
 rcases h5 with ⟨_,h5,_⟩ | ⟨_,h6,h7⟩
 ·omega
 rw [h6]
 by_cases he:i=s.length
 ·rw [List.take_of_length_le (by simp; omega)] at h7 ⊢
  rw [AYh h7]; simp [he]
 ·have hc:s[i]?=some 47:=by rcases hsep with h | h; exact absurd h he; exact h
  have hc':(s.drop f)[i - f]?=some 47:=by rw [List.getElem?_drop]; rw [←hc]; congr 1; omega
  rw [AXR hc' h7,List.drop_drop]
  simp only [he,decide_false,Bool.false_or,List.all_cons]
  congr 4; omega
theorem APL.next {s:List UInt8} {f i:Nat} (h:APL s f i) (hi:i≤s.length) (hsep:i=s.length∨s[i]?=some 47) (hp:ABN ((s.drop f).take (i - f))=true):APL s (i+1) (i+1):=by
 have hs:=h.sep hi hsep
 obtain ⟨h1,h2,h3,h4,h5⟩:=h
 rw [hp,Bool.true_and] at hs
 refine ⟨Nat.le_refl _,by omega,fun j c hj hc => ?_,fun j hj => ?_,?_⟩
 ·by_cases e:j=i
  ·subst e
   rcases hsep with h | h
   ·rw [List.getElem?_eq_none (by omega)] at hc; cases hc
   ·rw [h] at hc; cases hc; decide
  ·exact h3 j c (by omega) hc
 ·by_cases e:j+1=i
  ·rcases hsep with h | h
   ·rw [List.getElem?_eq_none (by omega:s.length≤j+1)]; simp
   ·rw [e,h]; simp
  ·exact h4 j (by omega)
 ·by_cases he:i=s.length
  ·left; exact ⟨by omega,by omega,by rw [hs]; simp [he]⟩
  ·right; exact ⟨by omega,by rw [hs]; simp [he],by simp⟩
theorem APL.step {s:List UInt8} {f i:Nat} {c:UInt8} (h:APL s f i) (hc:s[i]?=some c) (h47:c≠47) (hg:AMH c=true) (hp:∀ j,j+1=i→¬ (s[j]?=some 46∧c=46)∧¬ (s[j]?=some 64∧c=123)):APL s f (i+1):=by
 have hi:i<s.length:=(List.getElem?_eq_some_iff.1 hc).1
 obtain ⟨h1,h2,h3,h4,h5⟩:=h
 refine ⟨by omega,by omega,fun j x hj hx => ?_,fun j hj => ?_,?_⟩
 ·by_cases e:j=i
  ·subst e; rw [hc] at hx; cases hx; exact hg
  ·exact h3 j x (by omega) hx
 ·by_cases e:j+1=i
  ·have:=hp j e
   rw [e,hc]
   simpa using this
  ·exact h4 j (by omega)
 ·rcases h5 with ⟨_,h5,_⟩ | ⟨_,h6,h7⟩
  ·omega
  ·right
   refine ⟨by omega,h6,?_⟩
   have hc':(s.drop f)[i - f]?=some c:=by rw [List.getElem?_drop]; rw [←hc]; congr 1; omega
   rw [show i+1 - f=(i - f)+1 by omega,List.take_add_one,hc']
   simp [h7,Ne.symm h47]
theorem AX0 (c:UInt8):AMH c=true∧33≤c.toNat∧c.toNat≤126∧c.toNat≠126∧c.toNat≠94∧c.toNat≠58∧c.toNat≠63∧c.toNat≠42∧c.toNat≠91∧c.toNat≠92∨AMH c=false∧(c.toNat<33∨126<c.toNat∨c=126∨c=94∨c=58∨c=63∨c=42∨c=91∨c=92):=by
 cases h:AMH c with
 | true =>
  left
  unfold AMH at h
  rw [decide_eq_true_eq] at h
  obtain ⟨h1,h2,h3⟩:=h
  simp only [List.mem_cons,List.not_mem_nil,or_false,not_or,←UInt8.toNat_inj] at h3
  exact ⟨rfl,h1,h2,h3.1,h3.2.1,h3.2.2.1,h3.2.2.2.1,h3.2.2.2.2.1,h3.2.2.2.2.2.1,h3.2.2.2.2.2.2⟩
 | false =>
  right
  unfold AMH at h
  rw [decide_eq_false_iff_not] at h
  refine ⟨rfl,?_⟩
  by_cases h1:c.toNat<33
  ·exact .inl h1
  by_cases h2:126<c.toNat
  ·exact .inr (.inl h2)
  have h3:c∈[(126:UInt8),94,58,63,42,91,92]:=Decidable.not_not.1 fun h3=>h ⟨by omega,by omega,h3⟩
  simp only [List.mem_cons,List.not_mem_nil,or_false] at h3
  exact .inr (.inr h3)
theorem AUC {s:List UInt8} {v:TV} (h0:¬ s=[72,69,65,68]) (h:(ABo 47 s).all ABN=false) (hv:v=tb false:=by rfl):∃ b,v=tb b∧(b=true↔A0M s) :=
 ⟨false,hv,ABm (fun k=>k.elim h0 fun k=>by rw [k.2.2.2.2.2.2] at h; cases h) _ rfl⟩
set_option maxRecDepth 100000 in
set_option maxHeartbeats 2000000 in
theorem A3B (s:List UInt8) (hs:s.length≤4000000):AAR Tryz.prog 41 [ts s] (fun x=>∃ b,x=tb b∧(b=true↔A0M s)):=by
 refine AAs.toPureV (AT6 (by simp) ?_)
 by_cases h0:s=[72,69,65,68]
 ·subst h0
  simp -dsimp (disch:=first | assumption | omega) only [↓AAp,AAk,AAn,AAo,eq_self,↓reduceIte,reduceCtorEq,↓AAw]
  exact ⟨_,rfl,ATe (.inl rfl) _ rfl⟩
 by_cases h1:60<s.length
 ·simp -dsimp (disch:=first | assumption | omega) only [↓AAp,AAk,AAn,AAo,eq_self,Nat.reduceEqDiff,↓reduceIte,reduceCtorEq,↓AAw,h0,AAD]
  exact ⟨_,rfl,ABm (fun h=>h.elim h0 fun h=>by omega) _ rfl⟩
 by_cases h2:s.length<6
 ·simp -dsimp (disch:=first | assumption | omega) only [↓AAp,AAk,AAn,AAo,eq_self,Nat.reduceEqDiff,↓reduceIte,reduceCtorEq,↓AAw,h0,AAD]
  exact ⟨_,rfl,ABm (fun h=>h.elim h0 fun h=>A5p h2 ⟨h.2.1,h.2.2.2.2.2.2⟩) _ rfl⟩
 by_cases h3:s.take 5=[114,101,102,115,47]
 case neg =>
  simp -dsimp (disch:=first | assumption | omega) only [↓AAp,AAk,AAn,AAo,eq_self,Nat.reduceEqDiff,↓reduceIte,reduceCtorEq,↓AAw,h0,AAD,h3]
  exact ⟨_,rfl,ABm (fun h=>h.elim h0 fun h=>h3 h.2.1) _ rfl⟩
 obtain ⟨cl,hcl⟩:∃ c,s[s.length - 1]?=some c:=⟨_,List.getElem?_eq_getElem (by omega)⟩
 by_cases h4:cl=46
 ·subst h4
  simp -dsimp (disch:=first | assumption | omega) only [↓AAp,AAk,AAn,AAo,eq_self,Nat.reduceEqDiff,UInt8.reduceToNat,↓reduceIte,reduceCtorEq,↓AAw,h0,AAD,h3,hcl]
  exact ⟨_,rfl,ABm (fun h=>h.elim h0 fun h=>h.2.2.1 hcl) _ rfl⟩
 have h4':¬ cl.toNat=46:=fun e=>h4 (UInt8.toNat_inj.1 e)
 simp -dsimp (disch:=first | assumption | omega) only [↓AAp,AAk,AAn,AAo,eq_self,Nat.reduceEqDiff,↓reduceIte,reduceCtorEq,↓AAw,h0,AAD,h3,hcl,h4']
 refine ACS (fun q e H=>∃ f i:Nat,q=s.length+1 - i∧APL s f i∧e=[(0,ts s),(3,i64 (s.length:Int)),(4,i64 (f:Int)),(5,i64 (i:Int))]∧H=[]) (s.length+1) ?_ ?_
 ·exact ⟨0,0,rfl,⟨by omega,by omega,fun j c h=>by omega,fun j h=>by omega,.inr ⟨by omega,rfl,by simp⟩⟩,rfl,rfl⟩
 ·rintro q e H ⟨f,i,rfl,hI,rfl,rfl⟩
  have hf:=hI.1
  by_cases hi:i≤s.length
  ·by_cases hsep:i=s.length∨s[i]?=some 47
   ·by_cases he:i=s.length
    ·subst he
     have hall:=hI.sep hi hsep
     have hplen:((s.drop f).take (s.length - f)).length=s.length - f:=by simp
     have h55:s.length - (s.length - 5)=5:=by omega
     have tk5:List.take 5 [(46:UInt8),108,111,99,107]=[46,108,111,99,107]:=rfl
     by_cases hk:s.length=f
     ·have hb:ABN ((s.drop f).take (s.length - f))=false:=by rw [←hk]; simp [ABN]
      simp -dsimp (disch:=first | assumption | omega) only [↓AAp,AAk,AAn,AAo,eq_self,Nat.reduceEqDiff,↓reduceIte,reduceCtorEq,↓AAw]
      exact AUC h0 (by rw [hall,hb,Bool.false_and])
     obtain ⟨cf,hcf⟩:∃ c,s[f]?=some c:=⟨_,List.getElem?_eq_getElem (by omega)⟩
     have hp0:((s.drop f).take (s.length - f))[0]?=some cf:=by rw [List.getElem?_take,if_pos (by omega),List.getElem?_drop]; exact hcf
     by_cases h46:cf=46
     ·subst h46
      have hb:ABN ((s.drop f).take (s.length - f))=false:=by unfold ABN; rw [decide_eq_false_iff_not]; exact fun h=>h.2.1 hp0
      simp -dsimp (disch:=first | assumption | omega) only [↓AAp,AAk,AAn,AAo,eq_self,Nat.reduceEqDiff,UInt8.reduceToNat,↓reduceIte,reduceCtorEq,↓AAw,AAD,hcf]
      exact AUC h0 (by rw [hall,hb,Bool.false_and])
     have d46:¬ cf.toNat=46:=fun e=>h46 (UInt8.toNat_inj.1 e)
     have hpne:(s.drop f).take (s.length - f)≠[]:=fun e=>by rw [e] at hp0; cases hp0
     by_cases h5:s.length - f<5
     ·have hb:ABN ((s.drop f).take (s.length - f))=true:=by unfold ABN; rw [decide_eq_true_eq,hp0]; exact ⟨hpne,by simpa using h46,fun h=>by omega⟩
      simp -dsimp (disch:=first | assumption | omega) only [↓AAp,AAk,AAn,AAo,eq_self,Nat.reduceEqDiff,↓reduceIte,reduceCtorEq,↓AAw,AAD,hcf,d46]
      exact AAC (s.length+1 - (s.length+1)) (by omega) (by simp) ⟨s.length+1,s.length+1,rfl,hI.next hi hsep hb,rfl,rfl⟩
     have hdr:((s.drop f).take (s.length - f)).drop (((s.drop f).take (s.length - f)).length - 5)=s.drop (s.length - 5):=by
      rw [hplen,List.drop_take,List.drop_drop,List.take_of_length_le (by simp; omega)]; congr 1; omega
     by_cases hl:s.drop (s.length - 5)=[46,108,111,99,107]
     ·have hb:ABN ((s.drop f).take (s.length - f))=false:=by unfold ABN; rw [decide_eq_false_iff_not]; exact fun h=>h.2.2 ⟨by omega,by rw [hdr]; exact hl⟩
      simp -dsimp (disch:=first | assumption | omega) only [↓AAp,AAk,AAn,AAo,eq_self,Nat.reduceEqDiff,↓reduceIte,reduceCtorEq,↓AAw,AAD,hcf,d46,hl,h55,tk5]
      exact AUC h0 (by rw [hall,hb,Bool.false_and])
     ·have hl':¬ (s.drop (s.length - 5)).take (s.length - (s.length - 5))=[46,108,111,99,107]:=by rw [List.take_of_length_le (by simp)]; exact hl
      have hb:ABN ((s.drop f).take (s.length - f))=true:=by unfold ABN; rw [decide_eq_true_eq,hp0,hdr]; exact ⟨hpne,by simpa using h46,fun h=>hl h.2⟩
      simp -dsimp (disch:=first | assumption | omega) only [↓AAp,AAk,AAn,AAo,eq_self,Nat.reduceEqDiff,↓reduceIte,reduceCtorEq,↓AAw,AAD,hcf,d46]
      exact AAC (s.length+1 - (s.length+1)) (by omega) (by simp) ⟨s.length+1,s.length+1,rfl,hI.next hi hsep hb,rfl,rfl⟩
    ·have hc:s[i]?=some 47:=by rcases hsep with h | h; exact absurd h he; exact h
     have hall:=hI.sep hi hsep
     have hplen:((s.drop f).take (i - f)).length=i - f:=by simp; omega
     by_cases hk:i=f
     ·subst hk
      have hb:ABN ((s.drop i).take (i - i))=false:=by simp [ABN]
      simp -dsimp (disch:=first | assumption | omega) only [↓AAp,AAk,AAn,AAo,eq_self,Nat.reduceEqDiff,UInt8.reduceToNat,↓reduceIte,reduceCtorEq,↓AAw,AAD,hc]
      exact AUC h0 (by rw [hall,hb,Bool.false_and])
     obtain ⟨cf,hcf⟩:∃ c,s[f]?=some c:=⟨_,List.getElem?_eq_getElem (by omega)⟩
     have hp0:((s.drop f).take (i - f))[0]?=some cf:=by rw [List.getElem?_take,if_pos (by omega),List.getElem?_drop]; exact hcf
     by_cases h46:cf=46
     ·subst h46
      have hb:ABN ((s.drop f).take (i - f))=false:=by unfold ABN; rw [decide_eq_false_iff_not]; exact fun h=>h.2.1 hp0
      simp -dsimp (disch:=first | assumption | omega) only [↓AAp,AAk,AAn,AAo,eq_self,Nat.reduceEqDiff,UInt8.reduceToNat,↓reduceIte,reduceCtorEq,↓AAw,AAD,hc,hcf]
      exact AUC h0 (by rw [hall,hb,Bool.false_and])
     have d46:¬ cf.toNat=46:=fun e=>h46 (UInt8.toNat_inj.1 e)
     have hpne:(s.drop f).take (i - f)≠[]:=fun e=>by rw [e] at hp0; cases hp0
     by_cases h5:i - f<5
     ·have hb:ABN ((s.drop f).take (i - f))=true:=by unfold ABN; rw [decide_eq_true_eq,hp0]; exact ⟨hpne,by simpa using h46,fun h=>by omega⟩
      simp -dsimp (disch:=first | assumption | omega) only [↓AAp,AAk,AAn,AAo,eq_self,Nat.reduceEqDiff,UInt8.reduceToNat,↓reduceIte,reduceCtorEq,↓AAw,AAD,hc,hcf,d46]
      exact AAC (s.length+1 - (i+1)) (by omega) (by simp) ⟨i+1,i+1,rfl,hI.next hi hsep hb,rfl,rfl⟩
     have hdr:((s.drop f).take (i - f)).drop (((s.drop f).take (i - f)).length - 5)=(s.drop (i - 5)).take 5:=by
      rw [hplen,List.drop_take,List.drop_drop]; congr 1; omega; congr 1; omega
     have h55:i - (i - 5)=5:=by omega
     by_cases hl:(s.drop (i - 5)).take 5=[46,108,111,99,107]
     ·have hb:ABN ((s.drop f).take (i - f))=false:=by unfold ABN; rw [decide_eq_false_iff_not]; exact fun h=>h.2.2 ⟨by omega,by rw [hdr]; exact hl⟩
      simp -dsimp (disch:=first | assumption | omega) only [↓AAp,AAk,AAn,AAo,eq_self,Nat.reduceEqDiff,UInt8.reduceToNat,↓reduceIte,reduceCtorEq,↓AAw,AAD,hc,hcf,d46,hl,h55]
      exact AUC h0 (by rw [hall,hb,Bool.false_and])
     ·have hb:ABN ((s.drop f).take (i - f))=true:=by unfold ABN; rw [decide_eq_true_eq,hp0,hdr]; exact ⟨hpne,by simpa using h46,fun h=>hl h.2⟩
      simp -dsimp (disch:=first | assumption | omega) only [↓AAp,AAk,AAn,AAo,eq_self,Nat.reduceEqDiff,UInt8.reduceToNat,↓reduceIte,reduceCtorEq,↓AAw,AAD,hc,hcf,d46,hl,h55]
      exact AAC (s.length+1 - (i+1)) (by omega) (by simp) ⟨i+1,i+1,rfl,hI.next hi hsep hb,rfl,rfl⟩
   ·have he:i<s.length:=by omega
    obtain ⟨c,hc⟩:∃ c,s[i]?=some c:=⟨_,List.getElem?_eq_getElem he⟩
    have h47:c≠47:=fun e=>hsep (.inr (by rw [hc,e]))
    have d47:¬ c.toNat=47:=fun e=>h47 (UInt8.toNat_inj.1 e)
    rcases AX0 c with ⟨hg,g1,g2,g3,g4,g5,g6,g7,g8,g9⟩ | ⟨hg,hbad⟩
    ·by_cases c46:c=46
     ·subst c46
      by_cases hi0:i=0
      ·subst hi0
       simp -dsimp (disch:=first | assumption | omega) only [↓AAp,AAk,AAn,AAo,eq_self,Nat.reduceLT,Nat.reduceEqDiff,UInt8.reduceToNat,↓reduceIte,reduceCtorEq,↓AAw,AAD,hc]
       exact AAC (s.length+1 - (0+1)) (by omega) (by simp) ⟨f,0+1,rfl,hI.step hc h47 hg (fun j h=>by omega),rfl,rfl⟩
      obtain ⟨cp,hcp⟩:∃ c,s[i - 1]?=some c:=⟨_,List.getElem?_eq_getElem (by omega)⟩
      by_cases cp46:cp=46
      ·subst cp46
       simp -dsimp (disch:=first | assumption | omega) only [↓AAp,AAk,AAn,AAo,eq_self,Nat.reduceLT,Nat.reduceEqDiff,UInt8.reduceToNat,↓reduceIte,reduceCtorEq,↓AAw,AAD,hc,hcp]
       exact ⟨_,rfl,ABm (fun h=>h.elim h0 fun h=>h.2.2.2.1 ⟨i - 1,hcp,by rw [show i - 1+1=i by omega]; exact hc⟩) _ rfl⟩
      ·have dp:¬ cp.toNat=46:=fun e=>cp46 (UInt8.toNat_inj.1 e)
       simp -dsimp (disch:=first | assumption | omega) only [↓AAp,AAk,AAn,AAo,eq_self,Nat.reduceLT,Nat.reduceEqDiff,UInt8.reduceToNat,↓reduceIte,reduceCtorEq,↓AAw,AAD,hc,hcp,dp]
       exact AAC (s.length+1 - (i+1)) (by omega) (by simp) ⟨f,i+1,rfl,hI.step hc h47 hg (fun j h=>by rw [show j=i - 1 by omega,hcp]; simp [cp46]),rfl,rfl⟩
     have d46:¬ c.toNat=46:=fun e=>c46 (UInt8.toNat_inj.1 e)
     by_cases c123:c=123
     ·subst c123
      by_cases hi0:i=0
      ·subst hi0
       simp -dsimp (disch:=first | assumption | omega) only [↓AAp,AAk,AAn,AAo,eq_self,Nat.reduceLT,Nat.reduceEqDiff,UInt8.reduceToNat,↓reduceIte,reduceCtorEq,↓AAw,AAD,hc]
       exact AAC (s.length+1 - (0+1)) (by omega) (by simp) ⟨f,0+1,rfl,hI.step hc h47 hg (fun j h=>by omega),rfl,rfl⟩
      obtain ⟨cp,hcp⟩:∃ c,s[i - 1]?=some c:=⟨_,List.getElem?_eq_getElem (by omega)⟩
      by_cases cp64:cp=64
      ·subst cp64
       simp -dsimp (disch:=first | assumption | omega) only [↓AAp,AAk,AAn,AAo,eq_self,Nat.reduceLT,Nat.reduceEqDiff,UInt8.reduceToNat,↓reduceIte,reduceCtorEq,↓AAw,AAD,hc,hcp]
       exact ⟨_,rfl,ABm (fun h=>h.elim h0 fun h=>h.2.2.2.2.1 ⟨i - 1,hcp,by rw [show i - 1+1=i by omega]; exact hc⟩) _ rfl⟩
      ·have dp:¬ cp.toNat=64:=fun e=>cp64 (UInt8.toNat_inj.1 e)
       simp -dsimp (disch:=first | assumption | omega) only [↓AAp,AAk,AAn,AAo,eq_self,Nat.reduceLT,Nat.reduceEqDiff,UInt8.reduceToNat,↓reduceIte,reduceCtorEq,↓AAw,AAD,hc,hcp,dp]
       exact AAC (s.length+1 - (i+1)) (by omega) (by simp) ⟨f,i+1,rfl,hI.step hc h47 hg (fun j h=>by rw [show j=i - 1 by omega,hcp]; simp [cp64]),rfl,rfl⟩
     have d123:¬ c.toNat=123:=fun e=>c123 (UInt8.toNat_inj.1 e)
     by_cases hi0:i=0
     ·subst hi0
      simp -dsimp (disch:=first | assumption | omega) only [↓AAp,AAk,AAn,AAo,eq_self,Nat.reduceLT,Nat.reduceEqDiff,↓reduceIte,reduceCtorEq,↓AAw,AAD,hc,d47,g3,g4,g5,g6,g7,g8,g9]
      exact AAC (s.length+1 - (0+1)) (by omega) (by simp) ⟨f,0+1,rfl,hI.step hc h47 hg (fun j h=>by omega),rfl,rfl⟩
     ·simp -dsimp (disch:=first | assumption | omega) only [↓AAp,AAk,AAn,AAo,eq_self,Nat.reduceEqDiff,↓reduceIte,reduceCtorEq,↓AAw,AAD,hc,d46,d47,d123,g3,g4,g5,g6,g7,g8,g9]
      exact AAC (s.length+1 - (i+1)) (by omega) (by simp) ⟨f,i+1,rfl,hI.step hc h47 hg (fun j h=>by simp [c46,c123]),rfl,rfl⟩
    ·have hno:¬ A0M s:=fun h=>h.elim h0 fun h=>by
      have:=h.2.2.2.2.2.1 c (List.mem_of_getElem? hc)
      rw [hg] at this; cases this
     rcases hbad with h | h | rfl | rfl | rfl | rfl | rfl | rfl | rfl
     all_goals
      simp -dsimp (disch:=first | assumption | omega) only [↓AAp,AAk,AAn,AAo,eq_self,Nat.reduceLT,Nat.reduceEqDiff,UInt8.reduceToNat,↓reduceIte,reduceCtorEq,↓AAw,AAD,hc,d47]
      exact ⟨_,rfl,ABm hno _ rfl⟩
  ·obtain ⟨k1,k2,k3,k4,k5⟩:=hI
   have hp:(ABo 47 s).all ABN=true:=by
    rcases k5 with ⟨_,_,h⟩ | ⟨h,_⟩
    ·exact h
    ·omega
   simp -dsimp (disch:=first | assumption | omega) only [↓AAp,AAk,AAn,AAo,eq_self,Nat.reduceEqDiff,↓reduceIte,reduceCtorEq,↓AAw]
   refine ⟨_,rfl,ATe (.inr ⟨by omega,h3,by rw [hcl]; simpa using h4,fun ⟨j,j1,j2⟩ => ?_,fun ⟨j,j1,j2⟩ => ?_,fun c hc => ?_,hp⟩) _ rfl⟩
   ·have:=(List.getElem?_eq_some_iff.1 j2).1
    exact (k4 j (by omega)).1 ⟨j1,j2⟩
   ·have:=(List.getElem?_eq_some_iff.1 j2).1
    exact (k4 j (by omega)).2 ⟨j1,j2⟩
   ·obtain ⟨j,hj,rfl⟩:=List.mem_iff_getElem.1 hc
    exact k3 j _ (by omega) (List.getElem?_eq_getElem hj)
end
section
open Go.RowKit
variable [AAE] [ADH]
theorem AZv (s:List UInt8) (hs:s.length≤4000000):AAR Tryz.prog 41 [ts s] (fun x=>x=tb (nmB s)):=by
 refine (A3B s hs).mono ?_
 rintro x ⟨b,rfl,hb⟩
 rw [←AGq] at hb
 cases b<;>cases h:nmB s<;>simp_all
def AG7 (r:A3v):TV := .agg [ts r.1,.arr 20 1 (r.2.map by8),ts []]
def AR4 (o:AL2):TV := .agg [ts o.head,.sl 22 (o.refs.map AG7)]
def A0X (o:AL2) (r:TV):Prop:=(ADo o→r = .tup [slB (AHl o),i64 ((0:Nat):Int)])∧(¬ ADo o→r = .tup [ANb,i64 ((111:Nat):Int)])
theorem A4b {wss:List (List (List UInt8))} (h:∀ ws∈wss,(AL8 ws).length≤1000):(AGm wss).length≤1004*wss.length:=by
 induction wss with
 | nil=>simp [AGm]
 | cons w wss ih =>
  have h1:=ih fun x hx=>h x (by simp [hx])
  have h2:=h w (by simp)
  have e:AGm (w::wss)=AA7 (AL8 w)++AGm wss:=by simp [AGm]
  rw [e,List.length_append,ADK,List.length_cons]; omega
theorem AWP {o:AL2} (hf:AN6 o) {Q:VEx→Env→List Ob→Prop} {j0 v0 cp0:Nat} {H:List Ob} {E:Env} (hok:ASI o.head∧o.refs.length≤500) (h0:H[0]?=some (.obj 0 (AR4 o)))
  (hj:H[j0]?=some (.obj v0 (.arr (AGm (ABR o.head)).length 1 ((AGm (ABR o.head)).map by8)))) (hj1:1≤j0) (hE:forget [1,4,6] E=[(1,.op 0 0 []),(4,.os 1 j0 v0 [] 0 (AGm (ABR o.head)).length cp0),(6,i64 ((0:Nat):Int))])
  (hhl:(AGm (ABR o.head)).length≤1004)
  (hyes:ADo o→∀ j v cp n m H',H'[j]?=some (.obj v (.arr (AGm (AGZ o)).length 1 ((AGm (AGZ o)).map by8)))→(AGm (AGZ o)).length≤1000000→Q (.exit 0) [(1,.op 0 0 []),(4,.os 1 j v [] 0 (AGm (AGZ o)).length cp),(6,n),(36,m)] H')
  (hno:¬ ADo o→∀ H',Q .ret [(2,ANb),(3,i64 ((111:Nat):Int))] H') :
  vwp Tryz.prog (.loop [1,4,6] ACU) Q E H:=by
 obtain ⟨hd,rs⟩:=o
 obtain ⟨f1,f2,f3⟩:=hf
 simp only at f1 f2 f3 hok h0 hj hhl hE
 unfold AR4 at h0
 simp only at h0
 have hl0:=(List.getElem?_eq_some_iff.1 h0).1
 refine ACS (fun q e G=>∃ (i j v cp:Nat) (l:List UInt8),q=rs.length - i∧i≤rs.length∧l=AGm (ABR hd++(rs.take i).map AI5)∧l.length≤1004+i*1004∧AYr ⟨hd,rs⟩ i∧G[0]?=some (.obj 0 (.agg [ts hd,.sl 22 (rs.map AG7)]))∧1≤j∧G[j]?=some (.obj v (.arr l.length 1 (l.map by8)))∧H.length≤G.length∧e=[(1,.op 0 0 []),(4,.os 1 j v [] 0 l.length cp),(6,i64 (i:Int))]) rs.length ?_ ?_
 ·refine ⟨0,j0,v0,cp0,_,rfl,Nat.zero_le _,rfl,?_,⟨hok,fun k hk=>by omega⟩,h0,hj1,?_,Nat.le_refl _,?_⟩
  ·simpa using hhl
  ·simpa using hj
  ·simpa using hE
 rintro q e G ⟨i,j,v,cp,l,rfl,hi,hL,hll,hT,hG,hj,hGj,hGn,rfl⟩
 have hGl:=(List.getElem?_eq_some_iff.1 hG).1
 have hjl:=(List.getElem?_eq_some_iff.1 hGj).1
 by_cases hil:i<rs.length
 case neg =>
  have hi2:i=rs.length:=by omega
  subst hi2
  rw [List.take_length] at hL
  have hL':l=AGm (AGZ ⟨hd,rs⟩):=hL
  simp -dsimp (disch:=first | assumption | omega | (simp only [AAl];try omega)) only [↓AAp,AAk,AAn,AAo,eq_self,Nat.reduceEqDiff,↓reduceIte,Nat.reduceAdd,hG,↓ADI]
  subst hL'
  exact hyes (AY5.1 hT) _ _ _ _ _ _ hGj (by omega)
 obtain ⟨⟨nm,id⟩,hr⟩:∃ r,rs[i]?=some r:=⟨_,List.getElem?_eq_getElem hil⟩
 have hrm:=f3 _ (List.mem_of_getElem? hr)
 simp only at hrm
 obtain ⟨hnl,h20⟩:=hrm
 have hg:(rs.map AG7)[i]?=some (.agg [ts nm,.arr 20 1 (id.map by8),ts []]):=by rw [List.getElem?_map,hr]; rfl
 have h20':(id.map by8).length=20:=by rw [List.length_map]; exact h20
 have hra:=AZc hr
 have hsn:rs.take (i+1)=rs.take i++[(nm,id)]:=by rw [List.take_add_one,hr]; rfl
 have bad:¬ ATN rs i→¬ ADo ⟨hd,rs⟩:=fun h k=>h (k.2.2 i hil)
 simp -dsimp (disch:=first | assumption | omega | (simp only [AAl];try omega)) only [↓AAp,AAk,AAn,AAo,eq_self,Nat.reduceEqDiff,↓reduceIte,Nat.reduceAdd,hg,hG,↓ADI,↓AJg]
 refine (AZv nm (by omega)).calls rfl fun r hr => ?_
 subst hr
 have h3:(nmB nm=false∧¬ ATN rs i)∨(nmB nm=true∧i=0∧ATN rs i)∨(nmB nm=true∧∃ j q,i=j+1∧rs[j]?=some q∧Op.bytesLess q.1 nm=false∧¬ ATN rs i)∨(nmB nm=true∧∃ j q,i=j+1∧rs[j]?=some q∧Op.bytesLess q.1 nm=true∧ATN rs i):=by
  rw [hra]
  cases hn:nmB nm with
  | false=>exact .inl ⟨rfl,fun h=>by have:=AGq.2 h.1; rw [hn] at this; cases this⟩
  | true =>
   have hp:=AGq.1 hn
   cases i with
   | zero=>exact .inr (.inl ⟨rfl,rfl,hp,.inl rfl⟩)
   | succ k =>
    obtain ⟨q,hq⟩:∃ r,rs[k]?=some r:=⟨_,List.getElem?_eq_getElem (by omega)⟩
    cases hlt:Op.bytesLess q.1 nm with
    | false=>exact .inr (.inr (.inl ⟨rfl,k,q,rfl,hq,hlt,by simp [hq,hlt]⟩))
    | true=>exact .inr (.inr (.inr ⟨rfl,k,q,rfl,hq,hlt,by simp [hp,hq,hlt]⟩))
 rcases h3 with ⟨hnb,h⟩ | ⟨hnb,hi0,hR⟩ | ⟨hnb,k,⟨qn,qi⟩,hk,hq,hlt,h⟩ | ⟨hnb,k,⟨qn,qi⟩,hk,hq,hlt,hR⟩
 ·rw [hnb]
  simp -dsimp (disch:=first | assumption | omega | (simp only [AAl];try omega)) only [↓AAp,AAk,AAn,AAo,eq_self,Nat.reduceEqDiff,↓reduceIte,↓ABv]
  exact hno (bad h) _
 rotate_left
 ·rw [hnb]
  have hqm:=f3 _ (List.mem_of_getElem? hq)
  have hq20:(qi.map by8).length=20:=by rw [List.length_map]; exact hqm.2
  have hgq:(rs.map AG7)[k]?=some (.agg [ts qn,.arr 20 1 (qi.map by8),ts []]):=by rw [List.getElem?_map,hq]; rfl
  have hj0:¬ i=0:=by omega
  have hi0':0<i:=by omega
  have hj1:i - 1=k:=by omega
  simp -dsimp (disch:=first | assumption | omega | (simp only [AAl];try omega)) only [↓AAp,AAk,AAn,AAo,eq_self,Nat.reduceEqDiff,↓reduceIte,Nat.reduceAdd,hi0',hj1,hgq,hg,hG,Bao,hlt,↓ABv]
  exact hno (bad h) _
 rotate_left
 case' inr.inl =>
  rw [hnb]
  have hi0':¬ 0<i:=by omega
  simp -dsimp (disch:=first | assumption | omega | (simp only [AAl];try omega)) only [↓AAp,AAk,AAn,AAo,eq_self,Nat.reduceEqDiff,↓reduceIte,hi0',↓ABv]
 case' inr.inr.inr =>
  rw [hnb]
  have hqm:=f3 _ (List.mem_of_getElem? hq)
  have hq20:(qi.map by8).length=20:=by rw [List.length_map]; exact hqm.2
  have hgq:(rs.map AG7)[k]?=some (.agg [ts qn,.arr 20 1 (qi.map by8),ts []]):=by rw [List.getElem?_map,hq]; rfl
  have hj0:¬ i=0:=by omega
  have hi0':0<i:=by omega
  have hj1:i - 1=k:=by omega
  simp -dsimp (disch:=first | assumption | omega | (simp only [AAl];try omega)) only [↓AAp,AAk,AAn,AAo,eq_self,Nat.reduceEqDiff,↓reduceIte,Nat.reduceAdd,hi0',hj1,hgq,hg,hG,Bao,hlt,↓ABv]
 all_goals
  have hp:=(hra.1 hR).1
  have hpl:=(APv hp).1
  simp only at hpl
  have hhx:(ABt id).length=40:=by rw [AEX]; omega
  have c1:ABW 9 BinOp.add (.string (str (ABt id))) (.string (str [32]))=some (.string (str (ABt id++[32]))):=AXN (by simp; omega)
  have c2:ABW 9 BinOp.add (.string (str (ABt id++[32]))) (.string (str nm))=some (.string (str (ABt id++[32]++nm))):=AXN (by simp; omega)
  have hwl:AA7 (AL8 (AI5 (nm,id)))=AA7 (ABt id++[32]++nm++[10]):=by unfold AI5; rw [APl]; simp
  have hyl:(ABt id++[32]++nm).length=41+nm.length:=by simp; omega
  have hS:AGm (ABR hd++(rs.take (i+1)).map AI5)=l++AA7 (ABt id++[32]++nm++[10]):=by
   rw [hsn,List.map_append,←List.append_assoc,AYS,←hL,List.map_cons,List.map_nil,ASh,hwl]
  have hT':AYr ⟨hd,rs⟩ (i+1):=APz.2 ⟨hT,hR⟩
  have hrt:=A6L (s:=ABt id++[32]++nm) (H:=G) (by omega)
  generalize ABt id++[32]++nm=y at *
  simp -dsimp (disch:=first | assumption | omega | (simp only [AAl];try omega)) only [↓AAp,AAk,AAn,AAo,eq_self,Nat.reduceEqDiff,↓reduceIte,Nat.reduceAdd,hg,hG,↓AJr]
  refine ⟨_,(A76 id h20).calls rfl fun r hr=>⟨hr,rfl⟩,?_⟩
  simp -dsimp (disch:=first | assumption | omega | (simp only [AAl];try omega)) only [↓AAp,AAk,AAn,AAo,eq_self,Nat.reduceEqDiff,↓reduceIte,Nat.reduceAdd,hg,hG,c1,c2]
  refine AV7 (AAs.mono hrt ?_)
  rintro z H2 ⟨j2,v2,rfl,k1,k2,k3,k4⟩
  have hz2:=List.take_of_length_le (l:=(AA7 (y++[10])).map by8) (i:=(AA7 (y++[10])).length) (by simp)
  have hlt2:=List.take_of_length_le (l:=l.map by8) (i:=l.length) (by simp)
  have hj2:H2[j]?=some (.obj v (.arr l.length 1 (l.map by8))):=by rw [k4 j hjl]; exact hGj
  have h02:H2[0]?=some (.obj 0 (.agg [ts hd,.sl 22 (rs.map AG7)])):=by rw [k4 0 hGl]; exact hG
  have hzl:(AA7 (y++[10])).length≤1004:=by rw [ADK,List.length_append,List.length_singleton]; omega
  generalize AA7 (y++[10])=z at *
  simp -dsimp (disch:=first | assumption | omega | (simp only [AAl];try omega)) only [↓AAp,AAk,AAn,AAo,eq_self,Nat.reduceEqDiff,↓reduceIte,k1,hz2,hlt2,hj2]
  refine AAC (rs.length - (i+1)) (by omega) (by simp; omega) ⟨i+1,j,v+1,(l++z).length,l++z,rfl,by omega,hS.symm,by rw [List.length_append]; omega,hT',?_,hj,?_,by simp; omega,by simp [forget,get]⟩
  ·rw [List.getElem?_set_ne (by omega)]; exact h02
  ·rw [List.getElem?_set_self (by omega),List.length_append,List.map_append]
theorem A24 {o:AL2} (hf:AN6 o) {Q:VEx→Env→List Ob→Prop} {x:TV} {H:List Ob} (hok:ASI o.head∧o.refs.length≤500) (h0:H[0]?=some (.obj 0 (AR4 o)))
  (hx:(x=ANb∧AGm (ABR o.head)=[])∨∃ j v,x = .os 1 j v [] 0 (AGm (ABR o.head)).length (AGm (ABR o.head)).length∧H[j]?=some (.obj v (.arr (AGm (ABR o.head)).length 1 ((AGm (ABR o.head)).map by8)))∧1≤j)
  (hhl:(AGm (ABR o.head)).length≤1004)
  (hyes:ADo o→∀ j v H',H'[j]?=some (.obj v (.arr (AHl o).length 1 ((AHl o).map by8)))→Q .ret [(2,.os 1 j v [] 0 (AHl o).length (AHl o).length),(3,i64 ((0:Nat):Int))] H')
  (hno:¬ ADo o→∀ H',Q .ret [(2,ANb),(3,i64 ((111:Nat):Int))] H') :
  vwp Tryz.prog ACN Q [(1,.op 0 0 []),(4,x)] H:=by
 have hl0:=(List.getElem?_eq_some_iff.1 h0).1
 rcases hx with ⟨rfl,hS⟩ | ⟨j,v,rfl,hj,hj1⟩
 ·simp -dsimp (disch:=first | assumption | omega | (simp only [AAl];try omega)) only [↓AAp,AAk,AAn,AAo,eq_self,Nat.reduceEqDiff,↓reduceIte,↓ADY,↓ADG]
  refine AWP hf hok (by rw [List.getElem?_append_left hl0]; exact h0) (j0:=H.length) (v0:=0) (cp0:=0) (by rw [hS]; simp) (by omega) (by rw [hS]; simp [forget,get]) hhl (fun h j v cp n m H' k1 k2 => ?_) (fun h H' => ?_)
  ·have hkt:((AGm (AGZ o)).map by8).take (AGm (AGZ o)).length=(AGm (AGZ o)).map by8:=List.take_of_length_le (by simp)
   simp -dsimp (disch:=first | assumption | omega | (simp only [AAl];try omega)) only [↓AAp,AAk,AAn,AAo,eq_self,Nat.reduceEqDiff,↓reduceIte,Nat.reduceAdd,Nat.reduceLeDiff,AAD,k1,hkt,↓ADx]
   have hjl:=(List.getElem?_eq_some_iff.1 k1).1
   have e:(AHl o).length=(AGm (AGZ o)).length+4:=by unfold AHl; rw [List.length_append]; rfl
   have:=hyes h j (v+1) (H'.set j (.obj (v+1) (.arr (AHl o).length 1 ((AHl o).map by8)))) (List.getElem?_set_self hjl)
   rw [e] at this
   unfold AHl at this
   rw [List.map_append] at this
   exact this
  ·simp -dsimp (disch:=first | assumption | omega | (simp only [AAl];try omega)) only [↓AAp]
   exact hno h _
 ·simp -dsimp (disch:=first | assumption | omega | (simp only [AAl];try omega)) only [↓AAp,AAk,AAn,AAo,eq_self,Nat.reduceEqDiff,↓reduceIte,↓ADY,↓ADG]
  refine AWP hf hok h0 hj (cp0:=(AGm (ABR o.head)).length) hj1 (by simp [forget,get]) hhl (fun h j v cp n m H' k1 k2 => ?_) (fun h H' => ?_)
  ·have hkt:((AGm (AGZ o)).map by8).take (AGm (AGZ o)).length=(AGm (AGZ o)).map by8:=List.take_of_length_le (by simp)
   simp -dsimp (disch:=first | assumption | omega | (simp only [AAl];try omega)) only [↓AAp,AAk,AAn,AAo,eq_self,Nat.reduceEqDiff,↓reduceIte,Nat.reduceAdd,Nat.reduceLeDiff,AAD,k1,hkt,↓ADx]
   have hjl:=(List.getElem?_eq_some_iff.1 k1).1
   have e:(AHl o).length=(AGm (AGZ o)).length+4:=by unfold AHl; rw [List.length_append]; rfl
   have:=hyes h j (v+1) (H'.set j (.obj (v+1) (.arr (AHl o).length 1 ((AHl o).map by8)))) (List.getElem?_set_self hjl)
   rw [e] at this
   unfold AHl at this
   rw [List.map_append] at this
   exact this
  ·simp -dsimp (disch:=first | assumption | omega | (simp only [AAl];try omega)) only [↓AAp]
   exact hno h _
theorem ARf (o:AL2) (hf:AN6 o):AHk Tryz.prog 15 [AR4 o] (A0X o):=by
 refine AAs.toFreshV (ANP (by simp) ?_)
 obtain ⟨hd,rs⟩:=o
 have hf0:=hf
 obtain ⟨f1,f2,f3⟩:=hf
 simp only at f1 f2 f3
 have hnil:nmB []=false:=by
  cases h:nmB [] with
  | false=>rfl
  | true=>exact absurd rfl (A8B (AGq.1 h))
 have yes:ADo ⟨hd,rs⟩→∀ j v H',H'[j]?=some (.obj v (.arr (AHl ⟨hd,rs⟩).length 1 ((AHl ⟨hd,rs⟩).map by8)))→AXL ACI (fun x H'=>AA2 (frs H' x) (A0X ⟨hd,rs⟩)) .ret [(2,.os 1 j v [] 0 (AHl ⟨hd,rs⟩).length (AHl ⟨hd,rs⟩).length),(3,i64 ((0:Nat):Int))] H':=by
  intro h1 j v H' hj
  have hkt:((AHl ⟨hd,rs⟩).map by8).take (AHl ⟨hd,rs⟩).length=(AHl ⟨hd,rs⟩).map by8:=List.take_of_length_le (by simp)
  simp -dsimp (disch:=first | assumption | omega | (simp only [AAl];try omega)) only [↓AAp,AAk,AAn,AAo,eq_self,Nat.reduceEqDiff,↓reduceIte,hj,hkt,↓AFZ]
  exact ⟨fun _=>rfl,fun h=>absurd h1 h⟩
 have no:¬ ADo ⟨hd,rs⟩→∀ H',AXL ACI (fun x H'=>AA2 (frs H' x) (A0X ⟨hd,rs⟩)) .ret [(2,ANb),(3,i64 ((111:Nat):Int))] H':=by
  intro h1 H'
  simp -dsimp (disch:=first | assumption | omega | (simp only [AAl];try omega)) only [↓AAp,AAk,AAn,AAo,eq_self,Nat.reduceEqDiff,↓reduceIte,↓AFZ]
  exact ⟨fun h=>absurd h h1,fun _=>rfl⟩
 simp -dsimp (disch:=first | assumption | omega | (simp only [AAl];try omega)) only [↓AAp,AAk,AAn,AAo,eq_self,Nat.reduceEqDiff,↓reduceIte,AR4,↓AMA,↓AH1,↓AIc]
 refine (AZv hd (by omega)).calls rfl fun r hr => ?_
 subst hr
 by_cases h0:hd=[]
 ·subst h0
  rw [hnil]
  by_cases h500:rs.length≤500
  ·simp -dsimp (disch:=first | assumption | omega | (simp only [AAl];try omega)) only [↓AAp,AAk,AAn,AAo,eq_self,Nat.reduceEqDiff,↓reduceIte,Nat.reduceAdd,↓ABg,↓ADZ]
   exact A24 hf0 ⟨fun h=>absurd rfl h,h500⟩ rfl (.inl ⟨rfl,rfl⟩) (by simp [ABR,AGm]) yes no
  ·simp -dsimp (disch:=first | assumption | omega | (simp only [AAl];try omega)) only [↓AAp,AAk,AAn,AAo,eq_self,Nat.reduceEqDiff,↓reduceIte,Nat.reduceAdd,↓ABg]
   exact no (fun h=>h500 h.2.1) _
 ·cases hnb:nmB hd with
  | false =>
   simp -dsimp (disch:=first | assumption | omega | (simp only [AAl];try omega)) only [↓AAp,AAk,AAn,AAo,eq_self,Nat.reduceEqDiff,↓reduceIte,h0,↓ABg]
   exact no (fun h=>by have:=AGq.2 (h.1 h0); rw [hnb] at this; cases this) _
  | true =>
   have hp:=AGq.1 hnb
   have hpl:=(APv hp).1
   by_cases h500:rs.length≤500
   ·have hcat:ABW 9 BinOp.add (.string (str [104,101,97,100,32])) (.string (str hd))=some (.string (str ([104,101,97,100,32]++hd))):=AXN (by simp; omega)
    have hl9:([104,101,97,100,32]++hd).length≤999:=by simp; omega
    have hS:AGm (ABR hd)=AA7 ([104,101,97,100,32]++hd++[10]):=by unfold ABR; rw [if_neg h0,ASh,APl]; rfl
    have hSl:(AGm (ABR hd)).length≤1004:=by rw [hS,ADK,List.length_append,List.length_singleton]; omega
    have hrt:=A6L (H:=[Ob.obj 0 (.agg [ts hd,.sl 22 (rs.map AG7)])]) hl9
    generalize ([104,101,97,100,32]++hd:List UInt8)=y at *
    simp -dsimp (disch:=first | assumption | omega | (simp only [AAl];try omega)) only [↓AAp,AAk,AAn,AAo,eq_self,Nat.reduceEqDiff,↓reduceIte,Nat.reduceAdd,h0,hcat,↓ABg,↓ADZ]
    refine AV7 (AAs.mono hrt ?_)
    rintro z H2 ⟨j,v,rfl,k1,k2,k3,k4⟩
    simp -dsimp (disch:=first | assumption | omega | (simp only [AAl];try omega)) only [↓AAp,AAk,AAn,AAo,eq_self,Nat.reduceEqDiff,↓reduceIte]
    rw [←hS] at k1 ⊢
    exact A24 hf0 ⟨fun _=>hp,h500⟩ (k4 0 (by simp)) (.inr ⟨j,v,rfl,k1,k2⟩) hSl yes no
   ·simp -dsimp (disch:=first | assumption | omega | (simp only [AAl];try omega)) only [↓AAp,AAk,AAn,AAo,eq_self,Nat.reduceEqDiff,↓reduceIte,Nat.reduceAdd,h0,↓ABg]
    exact no (fun h=>h500 h.2.1) _
end
section
open Go.RowKit
variable [AAE] [ADH] [AAx] [AAz]
section
omit [ADH] [AAx] [AAz]
theorem AYD:∀ {l w x:List UInt8},x∈spl w l→x.length≤w.length+l.length
 | [],w,x,h=>by rw [spl,List.mem_singleton] at h; subst h; simp
 | c::l,w,x,h=>by
  rw [spl] at h
  split at h
  ·rcases List.mem_cons.1 h with rfl | h
   ·simp
   ·have:=AYD h; simp at this ⊢; omega
  ·have:=AYD h; simp at this ⊢; omega
theorem AUS {b x:List UInt8} (h:x∈ACV b):x.length≤b.length:=by
 have:=AYD h
 have:=ASE b
 simp at *; omega
theorem AS1 {ls:List (List UInt8)} {b:List UInt8} (h:AAG ls b):4*ls.length≤b.length:=by
 have h1:∀ l:List (List UInt8),4*l.length≤(l.flatMap AA7).length:=fun l=>by
  induction l with
  | nil=>simp
  | cons x l ih=>rw [List.flatMap_cons,List.length_append,ADK,List.length_cons]; omega
 have:=h1 ls
 rw [h.2] at this
 exact this
theorem A1H {doc:Bool} {ls:List (List UInt8)} {i:Nat} {x:List UInt8} (h:ls[i]?=some x):AKj doc (ls.take (i+1))=AGk doc (AKj doc (ls.take i)) (ACV x):=by
 unfold AKj
 rw [List.take_add_one,h,List.map_append,List.foldl_append]; rfl
theorem AXk:∀ l:List A3v,AFH (l.map ATx)=true
 | []=>rfl
 | r::l=>by
  rw [List.map_cons,AFH,AXk l]
  simp [ATx,AV4,AFH,A13]
def AVH (n:Nat) (o:AL2):Prop:=o.head.length≤1000∧o.refs.length≤n∧∀ r∈o.refs,r.1.length≤1000
theorem AVR {doc:Bool} {ls:List (List UInt8)} (h:∀ x∈ls,x.length≤1000):AVH ls.length (AKj doc ls):=by
 have:∀ (ls:List (List UInt8)) (n:Nat) (o:AL2),(∀ x∈ls,x.length≤1000)→AVH n o→AVH (n+ls.length) ((ls.map ACV).foldl (AGk doc) o):=fun ls=>by
  induction ls with
  | nil=>exact fun n o _ h=>h
  | cons x ls ih =>
   intro n o hx h
   rw [List.map_cons,List.foldl_cons,List.length_cons,show n+(ls.length+1)=(n+1)+ls.length by omega]
   refine ih _ _ (fun y hy=>hx y (by simp [hy])) ?_
   obtain ⟨h1,h2,h3⟩:=h
   have hx1:=hx x (by simp)
   unfold AGk
   split
   ·rename_i a b hw
    have hb:=AUS (show b∈ACV x by rw [hw]; simp)
    split
    ·refine ⟨h1,by simp; omega,fun r hr => ?_⟩
     rcases List.mem_append.1 hr with hr | hr
     ·exact h3 r hr
     ·rw [List.mem_singleton] at hr; subst hr; simp only; omega
    ·split
     ·exact ⟨h1,by omega,h3⟩
     ·exact ⟨by simp only; omega,by simp only; omega,h3⟩
   ·exact ⟨h1,by omega,h3⟩
 have h0:=this ls 0 ⟨[],[]⟩ h ⟨by simp,by simp,fun r hr=>by cases hr⟩
 rw [Nat.zero_add] at h0
 exact h0
theorem A2R {doc:Bool} {ls:List (List UInt8)} (h:∀ x∈ls,x.length≤1000) (hn:ls.length≤20000):AN6 (AKj doc ls):=by
 obtain ⟨h1,h2,h3⟩:=AVR (doc:=doc) h
 exact ⟨by omega,by omega,fun r hr=>⟨by have:=h3 r hr; omega,A2D r hr⟩⟩
end
def AMR:TV := .agg [ts [],ANb]
def Bds (b:List UInt8) (r:TV):Prop:=(∀ o,ADo o→AGt o→AHl o=b→r = .tup [AYY o,.val .nilIface])∧((∀ o,ADo o→AGt o→AHl o≠b)→(∀ ls,AAG ls b→r = .tup [AMR,eno 111])∧((∀ ls,¬ AAG ls b)→r = .tup [AMR,eno 110]))
theorem AYi (a b:List UInt8):AAR Tryz.prog 96 [slB a,slB b] (fun x=>x=tb (decide (a=b))):=by
 refine AAs.toPureV (ATK (by simp) ?_)
 simp -dsimp (disch:=first | assumption | omega) only [↓AAp,AAk,AAn,AAo,eq_self,Nat.reduceEqDiff,↓reduceIte,Nat.reduceAdd,reduceCtorEq,↓AU3]
theorem Bco {b s:List UInt8}:AAR Tryz.prog 66 [slB b,slB s,.val .nilIface] (fun r=>r=if b=s then .val .nilIface else eno 111):=by
 refine AAs.toPureV (AOh (by simp) ?_)
 simp -dsimp (disch:=first | assumption | omega | (simp only [AAl];try omega)) only [↓AAp,AAk,AAn,AAo,eq_self,Nat.reduceEqDiff,↓reduceIte,Nat.reduceAdd,reduceCtorEq,↓AM3]
 refine (AYi b s).calls rfl fun r hr => ?_
 subst hr
 by_cases h:b=s
 ·rw [decide_eq_true h,if_pos h]
  simp -dsimp (disch:=first | assumption | omega | (simp only [AAl];try omega)) only [↓AAp,AAk,AAn,AAo,eq_self,Nat.reduceEqDiff,↓reduceIte,↓AHI]
 ·rw [decide_eq_false h,if_neg h]
  simp -dsimp (disch:=first | assumption | omega | (simp only [AAl];try omega)) only [↓AAp,AAk,AAn,AAo,eq_self,Nat.reduceEqDiff,↓reduceIte,↓AHI]
  rfl
theorem A9O {b:List UInt8} {n:Int}:AAR Tryz.prog 66 [slB b,ANb,eno n] (fun r=>r=eno 111):=by
 refine AAs.toPureV (AOh (by simp) ?_)
 simp -dsimp (disch:=first | assumption | omega | (simp only [AAl];try omega)) only [↓AAp,AAk,AAn,AAo,eq_self,Nat.reduceEqDiff,↓reduceIte,Nat.reduceAdd,reduceCtorEq,↓AM3,↓AHI]
 rfl
theorem A0q (b:List UInt8) (hb:b.length≤70000):AHk Tryz.prog 42 [slB b] (Bds b):=by
 refine AAs.toFreshV (APX (by simp) ?_)
 simp -dsimp (disch:=first | assumption | omega | (simp only [AAl];try omega)) only [↓AAp,AAk,AAn,AAo,eq_self,Nat.reduceEqDiff,↓reduceIte,reduceCtorEq,↓AOp,↓AKM]
 refine (Bak b (by omega)).calls rfl fun r hr => ?_
 by_cases hL:∃ ls,AAG ls b
 case neg =>
  have hno:∀ ls,¬ AAG ls b:=fun ls h=>hL ⟨ls,h⟩
  rw [hr.2 hno]
  simp -dsimp (disch:=first | assumption | omega | (simp only [AAl];try omega)) only [↓AAp,AAk,AAn,AAo,eq_self,Nat.reduceEqDiff,↓reduceIte,Nat.reduceAdd,reduceCtorEq,↓AEl,↓ACE]
  exact ⟨fun o h1 h2 e=>absurd e (AZm hno o h1 h2),fun _=>⟨fun ls h=>absurd h (hno ls),fun _=>rfl⟩⟩
 obtain ⟨ls,hls⟩:=hL
 rw [hr.1 ls hls]
 clear hr
 have hlen:ls.length≤20000:=by have:=AS1 hls; omega
 simp -dsimp (disch:=first | assumption | omega | (simp only [AAl];try omega)) only [↓AAp,AAk,AAn,AAo,eq_self,Nat.reduceEqDiff,↓reduceIte,Nat.reduceAdd,reduceCtorEq,↓AEl,↓AKE,↓AKC,↓ALU]
 refine ACS (fun q e H=>∃ (i k v cp:Nat) (o:AL2),q=ls.length - i∧i≤ls.length∧o=AKj false (ls.take i)∧3≤H.length∧2≤k∧H[0]?=some (.obj 0 AMR)∧H[1]?=some (.obj 0 (.agg [ts o.head,.os 21 k v [] 0 o.refs.length cp]))∧H[k]?=some (.obj v (.arr o.refs.length 21 (o.refs.map ATx)))∧e=[(0,slB b),(2,.op 0 0 []),(6,.op 1 0 []),(22,.sl 1 (ls.map AGv)),(23,i64 (ls.length:Int)),(24,i64 (i:Int))]) ls.length ?_ ?_
 ·exact ⟨0,2,0,0,_,rfl,Nat.zero_le _,rfl,by simp,by simp,rfl,rfl,rfl,by simp [forget,get]⟩
 rintro q e H ⟨i,k,v,cp,o,rfl,hi,hO,h3l,hk2,hH0,hH1,hHk,rfl⟩
 have hsm:=AVR (doc:=false) (ls:=ls.take i) (fun x hx=>hls.1 x (List.mem_of_mem_take hx))
 rw [←hO,List.length_take,Nat.min_eq_left hi] at hsm
 have hid:=A2D (doc:=false) (ls:=ls.take i)
 rw [←hO] at hid
 obtain ⟨hd,rs⟩:=o
 obtain ⟨s1,s2,s3⟩:=hsm
 simp only at s1 s2 s3 hH1 hHk
 have hkl:=(List.getElem?_eq_some_iff.1 hHk).1
 have hrt:(rs.map ATx).take rs.length=rs.map ATx:=List.take_of_length_le (by simp)
 by_cases hil:i<ls.length
 case neg =>
  have hi2:i=ls.length:=by omega
  rw [List.take_of_length_le (by omega)] at hO
  simp -dsimp (disch:=first | assumption | omega | (simp only [AAl];try omega)) only [↓AAp,AAk,AAn,AAo,eq_self,Nat.reduceEqDiff,↓reduceIte,Nat.reduceAdd,reduceCtorEq,hH1,↓ACK,↓ACQ,↓AKF]
  have hfit:=A2R (doc:=false) hls.1 hlen
  rw [←hO] at hfit
  refine (ASu ⟨hd,rs⟩ hfit).lends (args':=[AYY ⟨hd,rs⟩]) (by unfold AYY; simp -dsimp (disch:=first | assumption | omega | (simp only [AAl];try omega)) only [AAn,AAo,eq_self,↓reduceIte,hHk,hrt]) fun r hr => ?_
  by_cases hok:ADo ⟨hd,rs⟩
  ·rw [hr.1 hok]
   clear hr
   simp -dsimp (disch:=first | assumption | omega | (simp only [AAl];try omega)) only [↓AAp,AAk,AAn,AAo,eq_self,Nat.reduceEqDiff,↓reduceIte,reduceCtorEq,↓AFi]
   refine Bco.calls rfl fun r hr => ?_
   subst hr
   by_cases hB:b=AHl ⟨hd,rs⟩
   ·rw [if_pos hB]
    have hl0:0<H.length:=by omega
    have hSk:∀ o:Ob,(H.set 0 o)[k]?=some (.obj v (.arr rs.length 21 (rs.map ATx))):=fun o=>by rw [List.getElem?_set_ne (by omega)]; exact hHk
    have hS0:∀ o:Ob,(H.set 0 o)[0]?=some o:=fun o=>List.getElem?_set_self hl0
    simp -dsimp (disch:=first | assumption | omega | (simp only [AAl];try omega)) only [↓AAp,AAk,AAn,AAo,eq_self,Nat.reduceEqDiff,↓reduceIte,Nat.reduceAdd,reduceCtorEq,hH0,hH1,hSk,hS0,hrt,AXk,AMR,↓ACE]
    refine ⟨fun o' h1 h2 e => ?_,fun h=>absurd hB.symm (h _ hok hid)⟩
    have:=AMt (doc:=false) hls h1 h2 e
    rw [←hO] at this
    subst this
    rfl
   ·rw [if_neg hB]
    simp -dsimp (disch:=first | assumption | omega | (simp only [AAl];try omega)) only [↓AAp,AAk,AAn,AAo,eq_self,Nat.reduceEqDiff,↓reduceIte,Nat.reduceAdd,reduceCtorEq,hH0,AMR,↓ACE]
    refine ⟨fun o' h1 h2 e => ?_,fun _=>⟨fun _ _=>rfl,fun h=>absurd hls (h ls)⟩⟩
    have:=AMt (doc:=false) hls h1 h2 e
    rw [←hO] at this
    subst this
    exact absurd e.symm hB
  ·rw [hr.2 hok]
   clear hr
   simp -dsimp (disch:=first | assumption | omega | (simp only [AAl];try omega)) only [↓AAp,AAk,AAn,AAo,eq_self,Nat.reduceEqDiff,↓reduceIte,reduceCtorEq,↓AFi]
   refine A9O.calls rfl fun r hr => ?_
   subst hr
   simp -dsimp (disch:=first | assumption | omega | (simp only [AAl];try omega)) only [↓AAp,AAk,AAn,AAo,eq_self,Nat.reduceEqDiff,↓reduceIte,Nat.reduceAdd,reduceCtorEq,hH0,AMR,↓ACE]
   refine ⟨fun o' h1 h2 e => ?_,fun _=>⟨fun _ _=>rfl,fun h=>absurd hls (h ls)⟩⟩
   have:=AMt (doc:=false) hls h1 h2 e
   rw [←hO] at this
   subst this
   exact absurd h1 hok
 have hg:ls[i]?=some ls[i]:=List.getElem?_eq_getElem hil
 have hgl:(ls.map AGv)[i]?=some (AGv ls[i]):=by rw [List.getElem?_map,hg]; rfl
 have hsu:=A1H (doc:=false) hg
 rw [←hO] at hsu
 have hx1:=hls.1 _ (List.mem_of_getElem? hg)
 have hwl:∀ w∈ACV ls[i],w.length≤ls[i].length:=fun w hw=>AUS hw
 by_cases h2:(ACV ls[i]).length=2
 case neg =>
  have hst:AGk false ⟨hd,rs⟩ (ACV ls[i])=⟨hd,rs⟩:=by
   unfold AGk
   split
   ·rename_i hw; rw [hw] at h2; exact absurd rfl h2
   ·rfl
  rw [hst] at hsu
  simp -dsimp (disch:=first | assumption | omega | (simp only [AAl];try omega)) only [↓AAp,AAk,AAn,AAo,eq_self,Nat.reduceEqDiff,↓reduceIte,Nat.reduceAdd,reduceCtorEq,hgl,h2,↓ACK,↓ACQ,↓AFc,↓AFD]
  exact AAC (ls.length - (i+1)) (by omega) (by simpa using h3l) ⟨i+1,k,v,cp,_,rfl,by omega,hsu.symm,h3l,hk2,hH0,hH1,hHk,by simp [forget,get]⟩
 obtain ⟨a,c,hw⟩:∃ a c,ACV ls[i]=[a,c]:=by
  match h:ACV ls[i],h2 with
  | [a,c],_=>exact ⟨a,c,rfl⟩
 unfold AGv at hgl
 rw [hw] at hgl hsu
 have ha:=hwl a (by rw [hw]; simp)
 have hc:=hwl c (by rw [hw]; simp)
 have hgl':(ls.map AGv)[i]?=some (.sl 1 [ts a,ts c]):=hgl
 simp -dsimp (disch:=first | assumption | omega | (simp only [AAl];try omega)) only [↓AAp,AAk,AAn,AAo,eq_self,Nat.reduceEqDiff,↓reduceIte,Nat.reduceAdd,reduceCtorEq,hgl',↓ACK,↓ACQ,↓AFc,↓AFD,↓ALv]
 refine (A94 a (by omega)).calls (by rfl) fun r hr => ?_
 subst hr
 have hpl:(ADB a).length=20:=by
  unfold ADB
  split
  ·rename_i h
   have h40:a.length=40:=by unfold AFG at h; simp at h; exact h.1
   exact ADF (n:=20) h40
  ·rfl
 have hpl':((ADB a).map by8).length=20:=by rw [List.length_map]; exact hpl
 cases hx:AFG a with
 | true =>
  have hst:AGk false ⟨hd,rs⟩ [a,c]=⟨hd,rs++[(c,AD7 a)]⟩:=by unfold AGk; simp [hx]
  have hpp:ADB a=AD7 a:=by unfold ADB; rw [if_pos hx]
  rw [hst] at hsu
  rw [if_pos rfl]
  rw [hpp] at hpl' ⊢
  have hA:∀ T:List Ob,(H++T)[k]?=some (.obj v (.arr rs.length 21 (rs.map ATx))):=fun T=>by rw [List.getElem?_append_left hkl]; exact hHk
  simp -dsimp (disch:=first | assumption | omega | (simp only [AAl];try omega)) only [↓AAp,AAk,AAn,AAo,eq_self,Nat.reduceEqDiff,↓reduceIte,Nat.reduceAdd,reduceCtorEq,Nat.reduceLeDiff,hH1,hA,hrt,BdT,↓AFy,↓AKX]
  refine AAC (ls.length - (i+1)) (by omega) (by simp; omega) ⟨i+1,k,v+1,rs.length+1,_,rfl,by omega,hsu.symm,by simp; omega,hk2,?_,?_,?_,by simp [forget,get]⟩
  ·rw [ga (by simp<;>omega),ASq (by simp<;>omega) (by omega),List.getElem?_set_ne (by omega)]; exact hH0
  ·rw [ga (by simp<;>omega),AS2 (by simp<;>omega),List.length_append]; rfl
  ·rw [ga (by simp<;>omega),ASq (by simp<;>omega) (by omega),List.getElem?_set_self (by omega),List.length_append,List.map_append]; rfl
 | false =>
  have hst:AGk false ⟨hd,rs⟩ [a,c]=⟨c,rs⟩:=by unfold AGk; simp [hx]
  rw [hst] at hsu
  rw [if_neg (by simp)]
  simp -dsimp (disch:=first | assumption | omega | (simp only [AAl];try omega)) only [↓AAp,AAk,AAn,AAo,eq_self,Nat.reduceEqDiff,↓reduceIte,Nat.reduceAdd,reduceCtorEq,hH1,↓AFy]
  refine AAC (ls.length - (i+1)) (by omega) (by simp; omega) ⟨i+1,k,v,cp,_,rfl,by omega,hsu.symm,by simp; omega,hk2,?_,?_,?_,by simp [forget,get]⟩
  ·rw [ASq (by omega) (by omega)]; exact hH0
  ·rw [AS2 (by omega)]
  ·rw [ASq (by omega) (by omega)]; exact hHk
end
section
open Go.RowKit
variable [AAE] [ADH] [AAx] [AAz]
def BaO (b:List UInt8) (r:TV):Prop:=(∀ o,ADo o→AGt o→AHl o=b→r = .tup [AR4 o,i64 ((0:Nat):Int)])∧((∀ o,ADo o→AGt o→AHl o≠b)→(∀ ls,AAG ls b→r = .tup [AMR,i64 ((111:Nat):Int)])∧((∀ ls,¬ AAG ls b)→r = .tup [AMR,i64 ((110:Nat):Int)]))
theorem AX7 (b:List UInt8) (hb:b.length≤70000):AAR Tryz.prog 43 [slB b] (BaO b):=by
 refine AAs.toPureV (AOm (by simp) ?_)
 simp -dsimp (disch:=first | assumption | omega | (simp only [AAl];try omega)) only [↓AAp,AAk,AAn,AAo,eq_self,Nat.reduceEqDiff,↓reduceIte,reduceCtorEq,↓ANy,↓AJb,↓AJd]
 refine (A8a b (by omega)).calls rfl fun r hr => ?_
 by_cases hL:∃ ls,AAG ls b
 case neg =>
  have hno:∀ ls,¬ AAG ls b:=fun ls h=>hL ⟨ls,h⟩
  rw [hr.2 hno]
  simp -dsimp (disch:=first | assumption | omega | (simp only [AAl];try omega)) only [↓AAp,AAk,AAn,AAo,eq_self,Nat.reduceEqDiff,↓reduceIte,Nat.reduceAdd,reduceCtorEq,↓ADO,↓ACv]
  exact ⟨fun o h1 h2 e=>absurd e (AZm hno o h1 h2),fun _=>⟨fun ls h=>absurd h (hno ls),fun _=>rfl⟩⟩
 obtain ⟨ls,hls⟩:=hL
 rw [hr.1 ls hls]
 clear hr
 have hlen:ls.length≤20000:=by have:=AS1 hls; omega
 simp -dsimp (disch:=first | assumption | omega | (simp only [AAl];try omega)) only [↓AAp,AAk,AAn,AAo,eq_self,Nat.reduceEqDiff,↓reduceIte,Nat.reduceAdd,reduceCtorEq,↓ADO,↓AJv,↓AKy]
 refine ACS (fun q e H=>∃ (i k v cp:Nat) (o:AL2),q=ls.length - i∧i≤ls.length∧o=AKj true (ls.take i)∧3≤H.length∧2≤k∧H[0]?=some (.obj 0 AMR)∧H[1]?=some (.obj 0 (.agg [ts o.head,.os 22 k v [] 0 o.refs.length cp]))∧H[k]?=some (.obj v (.arr o.refs.length 22 (o.refs.map AG7)))∧e=[(0,slB b),(2,.op 0 0 []),(4,.op 1 0 []),(5,.sl 1 (ls.map slB)),(7,i64 (i:Int))]) ls.length ?_ ?_
 ·exact ⟨0,2,0,0,_,rfl,Nat.zero_le _,rfl,by simp,by simp,rfl,rfl,rfl,by simp [forget,get]⟩
 rintro q e H ⟨i,k,v,cp,o,rfl,hi,hO,h3l,hk2,hH0,hH1,hHk,rfl⟩
 have hsm:=AVR (doc:=true) (ls:=ls.take i) (fun x hx=>hls.1 x (List.mem_of_mem_take hx))
 rw [←hO,List.length_take,Nat.min_eq_left hi] at hsm
 have hid:=A2D (doc:=true) (ls:=ls.take i)
 rw [←hO] at hid
 obtain ⟨hd,rs⟩:=o
 obtain ⟨s1,s2,s3⟩:=hsm
 simp only at s1 s2 s3 hH1 hHk
 have hkl:=(List.getElem?_eq_some_iff.1 hHk).1
 have hrt:(rs.map AG7).take rs.length=rs.map AG7:=List.take_of_length_le (by simp)
 by_cases hil:i<ls.length
 case neg =>
  have hi2:i=ls.length:=by omega
  rw [List.take_of_length_le (by omega)] at hO
  simp -dsimp (disch:=first | assumption | omega | (simp only [AAl];try omega)) only [↓AAp,AAk,AAn,AAo,eq_self,Nat.reduceEqDiff,↓reduceIte,Nat.reduceAdd,reduceCtorEq,hH1,↓AEg,↓AJq]
  have hfit:=A2R (doc:=true) hls.1 hlen
  rw [←hO] at hfit
  refine (ARf ⟨hd,rs⟩ hfit).lends (args':=[AR4 ⟨hd,rs⟩]) (by unfold AR4; simp -dsimp (disch:=first | assumption | omega | (simp only [AAl];try omega)) only [AAn,AAo,eq_self,↓reduceIte,hHk,hrt]) fun r hr => ?_
  by_cases hok:ADo ⟨hd,rs⟩
  ·rw [hr.1 hok]
   clear hr
   by_cases hB:AHl ⟨hd,rs⟩=b
   ·have hBt:(AHl ⟨hd,rs⟩=b)=True:=eq_true hB
    have hl0:0<H.length:=by omega
    have hSk:∀ o:Ob,(H.set 0 o)[k]?=some (.obj v (.arr rs.length 22 (rs.map AG7))):=fun o=>by rw [List.getElem?_set_ne (by omega)]; exact hHk
    have hS0:∀ o:Ob,(H.set 0 o)[0]?=some o:=fun o=>List.getElem?_set_self hl0
    simp -dsimp (disch:=first | assumption | omega | (simp only [AAl];try omega)) only [↓AAp,AAk,AAn,AAo,eq_self,Nat.reduceEqDiff,↓reduceIte,Nat.reduceAdd,reduceCtorEq,hBt,hH0,hH1,hSk,hS0,hrt,AMR,↓ACt,↓ACv]
    refine ⟨fun o' h1 h2 e => ?_,fun h=>absurd hB (h _ hok hid)⟩
    have:=AMt (doc:=true) hls h1 h2 e
    rw [←hO] at this
    subst this
    rfl
   ·simp -dsimp (disch:=first | assumption | omega | (simp only [AAl];try omega)) only [↓AAp,AAk,AAn,AAo,eq_self,Nat.reduceEqDiff,↓reduceIte,Nat.reduceAdd,reduceCtorEq,hB,hH0,AMR,↓ACt,↓ACv]
    refine ⟨fun o' h1 h2 e => ?_,fun _=>⟨fun _ _=>rfl,fun h=>absurd hls (h ls)⟩⟩
    have:=AMt (doc:=true) hls h1 h2 e
    rw [←hO] at this
    subst this
    exact absurd e hB
  ·rw [hr.2 hok]
   clear hr
   simp -dsimp (disch:=first | assumption | omega | (simp only [AAl];try omega)) only [↓AAp,AAk,AAn,AAo,eq_self,Nat.reduceEqDiff,↓reduceIte,Nat.reduceAdd,reduceCtorEq,hH0,AMR,↓ACt,↓ACv]
   refine ⟨fun o' h1 h2 e => ?_,fun _=>⟨fun _ _=>rfl,fun h=>absurd hls (h ls)⟩⟩
   have:=AMt (doc:=true) hls h1 h2 e
   rw [←hO] at this
   subst this
   exact absurd h1 hok
 have hg:ls[i]?=some ls[i]:=List.getElem?_eq_getElem hil
 have hgl:(ls.map slB)[i]?=some (slB ls[i]):=by rw [List.getElem?_map,hg]; rfl
 have hsu:=A1H (doc:=true) hg
 rw [←hO] at hsu
 have hx1:=hls.1 _ (List.mem_of_getElem? hg)
 have hwl:∀ w∈ACV ls[i],w.length≤ls[i].length:=fun w hw=>AUS hw
 have hwv:=A9W ls[i] (by omega)
 generalize ls[i]=x at *
 simp -dsimp (disch:=first | assumption | omega | (simp only [AAl];try omega)) only [↓AAp,AAk,AAn,AAo,eq_self,Nat.reduceEqDiff,↓reduceIte,reduceCtorEq,hgl,↓AEg,↓AKI]
 refine hwv.calls rfl fun r hr => ?_
 subst hr
 by_cases h2:(ACV x).length=2
 case neg =>
  have hst:AGk true ⟨hd,rs⟩ (ACV x)=⟨hd,rs⟩:=by
   unfold AGk
   split
   ·rename_i hw; rw [hw] at h2; exact absurd rfl h2
   ·rfl
  rw [hst] at hsu
  simp -dsimp (disch:=first | assumption | omega | (simp only [AAl];try omega)) only [↓AAp,AAk,AAn,AAo,eq_self,Nat.reduceEqDiff,↓reduceIte,Nat.reduceAdd,reduceCtorEq,h2,↓AEa]
  exact AAC (ls.length - (i+1)) (by omega) (by simpa using h3l) ⟨i+1,k,v,cp,_,rfl,by omega,hsu.symm,h3l,hk2,hH0,hH1,hHk,by simp [forget,get]⟩
 obtain ⟨a,c,hw⟩:∃ a c,ACV x=[a,c]:=by
  match h:ACV x,h2 with
  | [a,c],_=>exact ⟨a,c,rfl⟩
 rw [hw] at hsu ⊢
 have ha:=hwl a (by rw [hw]; simp)
 have hc:=hwl c (by rw [hw]; simp)
 simp -dsimp (disch:=first | assumption | omega | (simp only [AAl];try omega)) only [↓AAp,AAk,AAn,AAo,eq_self,Nat.reduceEqDiff,↓reduceIte,Nat.reduceAdd,reduceCtorEq,↓AEa,↓AKO]
 refine (A16 a (by omega)).calls (by rfl) fun r hr => ?_
 subst hr
 have hpl:(ADB a).length=20:=by
  unfold ADB
  split
  ·rename_i h
   have h40:a.length=40:=by unfold AFG at h; simp at h; exact h.1
   exact ADF (n:=20) h40
  ·rfl
 have hpl':((ADB a).map by8).length=20:=by rw [List.length_map]; exact hpl
 cases hx:AFG a with
 | true =>
  have hst:AGk true ⟨hd,rs⟩ [a,c]=⟨hd,rs++[(c,AD7 a)]⟩:=by unfold AGk; simp [hx]
  have hpp:ADB a=AD7 a:=by unfold ADB; rw [if_pos hx]
  rw [hst] at hsu
  rw [hpp] at hpl' ⊢
  have hA:∀ T:List Ob,(H++T)[k]?=some (.obj v (.arr rs.length 22 (rs.map AG7))):=fun T=>by rw [List.getElem?_append_left hkl]; exact hHk
  simp -dsimp (disch:=first | assumption | omega | (simp only [AAl];try omega)) only [↓AAp,AAk,AAn,AAo,eq_self,Nat.reduceEqDiff,↓reduceIte,Nat.reduceAdd,reduceCtorEq,Nat.reduceLeDiff,hH1,hA,hrt,BdT,↓ACD,↓ACC,↓AKL]
  refine AAC (ls.length - (i+1)) (by omega) (by simp; omega) ⟨i+1,k,v+1,rs.length+1,_,rfl,by omega,hsu.symm,by simp; omega,hk2,?_,?_,?_,by simp [forget,get]⟩
  ·rw [ga (by simp<;>omega),ASq (by simp<;>omega) (by omega),List.getElem?_set_ne (by omega)]; exact hH0
  ·rw [ga (by simp<;>omega),AS2 (by simp<;>omega),List.length_append]; rfl
  ·rw [ga (by simp<;>omega),ASq (by simp<;>omega) (by omega),List.getElem?_set_self (by omega),List.length_append,List.map_append]; rfl
 | false =>
  by_cases hwh:a=[104,101,97,100]
  ·have hst:AGk true ⟨hd,rs⟩ [a,c]=⟨c,rs⟩:=by unfold AGk; simp only [hx]; simp [hwh,ATR]
   have hwt:(a=[104,101,97,100])=True:=eq_true hwh
   rw [hst] at hsu
   simp -dsimp (disch:=first | assumption | omega | (simp only [AAl];try omega)) only [↓AAp,AAk,AAn,AAo,eq_self,Nat.reduceEqDiff,↓reduceIte,Nat.reduceAdd,reduceCtorEq,hH1,hwt,↓ACD,↓ACC,↓AEq]
   refine AAC (ls.length - (i+1)) (by omega) (by simp; omega) ⟨i+1,k,v,cp,_,rfl,by omega,hsu.symm,by simp; omega,hk2,?_,?_,?_,by simp [forget,get]⟩
   ·rw [ASq (by omega) (by omega)]; exact hH0
   ·rw [AS2 (by omega)]
   ·rw [ASq (by omega) (by omega)]; exact hHk
  ·have hst:AGk true ⟨hd,rs⟩ [a,c]=⟨hd,rs⟩:=by unfold AGk; simp [hx,hwh,ATR]
   rw [hst] at hsu
   simp -dsimp (disch:=first | assumption | omega | (simp only [AAl];try omega)) only [↓AAp,AAk,AAn,AAo,eq_self,Nat.reduceEqDiff,↓reduceIte,Nat.reduceAdd,reduceCtorEq,hwh,↓ACD,↓ACC,↓AEq]
   refine AAC (ls.length - (i+1)) (by omega) (by simp; omega) ⟨i+1,k,v,cp,_,rfl,by omega,hsu.symm,by simp; omega,hk2,?_,?_,?_,by simp [forget,get]⟩
   ·rw [ga (by omega)]; exact hH0
   ·rw [ga (by omega)]; exact hH1
   ·rw [ga (by omega)]; exact hHk
end
section
open Go.RowKit
variable [AAE]
theorem A1f {l m:List UInt8} {k:Nat} (h:l.take k=m.take k) (h1:k<l.length) (h2:k<m.length) (e:l[k]=m[k]):l.take (k+1)=m.take (k+1):=by
 rw [List.take_succ_eq_append_getElem h1,List.take_succ_eq_append_getElem h2,h,e]
theorem BeL {x y:UInt8} (h:x≠y):¬ (x.toNat=y.toNat):=fun e=>h (UInt8.toNat_inj.1 e)
theorem same (l m:List UInt8) (hl:l.length≤9223372036854775807) (hm:m.length≤9223372036854775807):AAR Tryz.prog 10 [slB l,slB m] (fun x=>x=tb (decide (l=m))):=by
 refine AAs.toPureV (AV6 (by simp) ?_)
 by_cases hlen:l.length=m.length
 case neg =>
  have hne:l≠m:=fun e=>hlen (by rw [e])
  simp -dsimp (disch:=first | assumption | omega) only [↓AAp,AAk,AAn,AAo,eq_self,Nat.reduceEqDiff,↓reduceIte,Nat.reduceAdd,reduceCtorEq,↓AGV,decide_eq_false hne]
 simp -dsimp (disch:=first | assumption | omega) only [↓AAp,AAk,AAn,AAo,eq_self,Nat.reduceEqDiff,↓reduceIte,Nat.reduceAdd,reduceCtorEq,↓AGV]
 refine ACS (fun n e H=>∃ (k:Nat),n=l.length - k∧k≤l.length∧l.take k=m.take k∧e=[(0,slB l),(1,slB m),(5,i64 (k:Int))]∧H=[]) l.length ?_ ?_
 ·exact ⟨0,by simp,by omega,by simp,rfl,rfl⟩
 ·rintro n e H ⟨k,rfl,hk,ht,rfl,rfl⟩
  by_cases hkl:k<l.length
  ·have hkm:k<m.length:=by omega
   have g1:l[k]?=some l[k]:=by simp [hkl]
   have g2:m[k]?=some m[k]:=by simp [hkm]
   by_cases he:l[k]=m[k]
   ·have hx:=A1f ht hkl hkm he
    have he':l[k].toNat=m[k].toNat:=by rw [he]
    simp -dsimp (disch:=first | assumption | omega) only [↓AAp,AAk,AAn,AAo,eq_self,Nat.reduceEqDiff,↓reduceIte,reduceCtorEq,↓AGV,g1,g2]
    exact AAC (l.length - (k+1)) (by omega) (by simp) ⟨k+1,rfl,by omega,hx,rfl,rfl⟩
   ·have he':=BeL he
    have hne:l≠m:=fun e=>he (by subst e; rfl)
    simp -dsimp (disch:=first | assumption | omega) only [↓AAp,AAk,AAn,AAo,eq_self,Nat.reduceEqDiff,↓reduceIte,reduceCtorEq,↓AGV,g1,g2,decide_eq_false hne]
  ·have hke:k=l.length:=by omega
   have heq:l=m:=by rw [hke,List.take_length,hlen,List.take_length] at ht; exact ht
   simp -dsimp (disch:=first | assumption | omega) only [↓AAp,AAk,AAn,AAo,eq_self,Nat.reduceEqDiff,↓reduceIte,reduceCtorEq,↓AGV,decide_eq_true heq]
theorem Beq (l:List UInt8) (hl:l.length≤1000000) {H:List Ob} {K:TV→List Ob→Prop} (hk:K (.os 1 H.length 0 [] 0 l.length (l.length+2)) (H++[.obj 0 (.arr (l.length+2) 1 ((l++[71,72]).map by8))])) :
  AAs Tryz.prog 17 [slB l] H K:=by
 refine AVp (by simp) ?_
 have c2:((l.length:Int)+2)=((l.length+2:Nat):Int):=by omega
 have b1:((1:Nat):Int)*((l.length+2:Nat):Int)≤281474976710656:=by omega
 have b2:((l.length+2:Nat):Int)≤9223372036854775807:=by omega
 have z:∀ n:Nat,List.replicate n (TV.val (.int .u8 ((0:Nat):Int)))=(List.replicate n (0:UInt8)).map by8:=fun n=>by rw [List.map_replicate]; rfl
 have e1:List.map by8 l++List.drop (min l.length (l.length+2)) (List.replicate (l.length+2) (TV.val (.int .u8 ((0:Nat):Int))))=(l++[0,0]).map by8:=by
  rw [z,←List.map_drop,←List.map_append,Nat.min_eq_left (by omega),List.drop_replicate,show l.length+2 - l.length=2 from by omega]; rfl
 have e2:((l++[0,0]).map by8).set l.length (.val (.int .u8 ((71:Nat):Int)))=(l++[71,0]).map by8:=by
  rw [List.map_append,List.set_append_right _ _ (by simp),List.map_append]; simp
 have e3:((l++[71,0]).map by8).set (l.length+1) (.val (.int .u8 ((72:Nat):Int)))=(l++[71,72]).map by8:=by
  rw [List.map_append,List.set_append_right _ _ (by simp),List.map_append]; simp
 have g1:((l++[0,0]).map by8)[l.length]?=some (by8 0):=by simp
 have g2:((l++[71,0]).map by8)[l.length+1]?=some (by8 0):=by simp
 simp -dsimp (disch:=first | assumption | omega | (simp only [AAl];try omega)) only [↓AAp,AAk,AAn,AAo,eq_self,Nat.reduceEqDiff,↓reduceIte,reduceCtorEq,Nat.reduceLeDiff,↓AXj,e1,e2,e3,g1,g2]
 exact hk
abbrev x85 (l:List UInt8):List UInt8:=l.map (· ^^^ 85)
theorem A3w {c:List UInt8} {k:Nat} (hk:k<c.length):(x85 (c.take k)++c.drop k).set k (c[k] ^^^ 85)=x85 (c.take (k+1))++c.drop (k+1):=by
 have h1:(x85 (c.take k)).length=k:=by simp; omega
 rw [List.set_append_right _ _ (by omega),h1,Nat.sub_self,List.drop_eq_getElem_cons hk,List.set_cons_zero,List.take_succ_eq_append_getElem hk,x85,x85,List.map_append,List.append_assoc]
 rfl
theorem AYm (l:List UInt8) (hl:l.length≤1000000) {H:List Ob} {id ver:Nat} {K:TV→List Ob→Prop} (ho:H[id]?=some (.obj ver (.arr (l.length+2) 1 ((l++[71,72]).map by8))))
  (hk:K (tb true) (H.set id (.obj ver (.arr (l.length+2) 1 ((x85 (l++[71,72])).map by8))))) :
  AAs Tryz.prog 19 [.os 1 id ver [] 0 l.length (l.length+2),slB l] H K:=by
 refine AV3 (by simp) ?_
 have hid:id<H.length:=(List.getElem?_eq_some_iff.1 ho).1
 have c2:((l.length:Int)+2)=((l.length+2:Nat):Int):=by omega
 have g1:(l++[71,72])[l.length]?=some 71:=by simp
 have g2:(l++[71,72])[l.length+1]?=some 72:=by simp
 have hL:(l++[71,72]).length=l.length+2:=by simp
 have ht:(l++[71,72]).take l.length=l:=by simp
 generalize hc:l++[71,72]=c at *
 simp -dsimp (disch:=first | assumption | omega | (simp only [AAl];try omega)) only [↓AAp,AAk,AAn,AAo,eq_self,Nat.reduceEqDiff,↓reduceIte,Nat.reduceAdd,reduceCtorEq,Nat.reduceLeDiff,↓AHv]
 refine (same l l (by omega) (by omega)).lends (args':=[slB l,slB l]) (by simp -dsimp (disch:=first | assumption | omega) only [AAn,AAo,eq_self,↓reduceIte,ho,hL,ht]) ?_
 rintro x rfl
 refine ⟨rfl,?_⟩
 rw [show tb (decide (l=l))=tb true from by simp]
 simp -dsimp (disch:=first | assumption | omega | (simp only [AAl];try omega)) only [↓AAp,AAk,AAn,AAo,eq_self,Nat.reduceEqDiff,UInt8.reduceToNat,↓reduceIte,↓AHv,ho,g1,g2]
 ·refine ACS (fun n e H'=>∃ (k:Nat),n=c.length - k∧k≤c.length∧e=[(6,.os 1 id ver [] 0 (l.length+2) (l.length+2)),(7,tb true),(8,i64 (k:Int))]∧H'=H.set id (.obj ver (.arr (l.length+2) 1 ((x85 (c.take k)++c.drop k).map by8)))) c.length ?_ ?_
  ·refine ⟨0,by simp,by omega,rfl,?_⟩
   have e0:x85 (c.take 0)++c.drop 0=c:=by simp
   obtain ⟨h1,h2⟩:=List.getElem?_eq_some_iff.1 ho
   rw [e0,←h2,List.set_getElem_self]
  ·rintro n e H' ⟨k,rfl,hkl,rfl,rfl⟩
   have gs:∀ o,(H.set id o)[id]?=some o:=fun o=>by simp [hid]
   by_cases hkc:k<c.length
   ·have hk2:k<l.length+2:=by omega
    have hlen:(x85 (c.take k)).length=k:=by simp; omega
    have g3:(x85 (c.take k)++c.drop k)[k]?=some c[k]:=by
     rw [List.getElem?_append_right (by omega),hlen,Nat.sub_self,List.getElem?_drop]; simp [hkc]
    have g4:=A3w hkc
    have h85:∀ (t:TypeId) (x:UInt8),ABW t .xor (.int .u8 (x.toNat:Int)) (.int .u8 ((85:Nat):Int))=some (.int .u8 ((x ^^^ 85).toNat:Int)):=fun t x=>A6Y (t:=t) (x:=x) (y:=85)
    generalize x85 (c.take k)++c.drop k=r at *
    generalize c[k]=y at *
    simp -dsimp (disch:=first | assumption | omega | (simp only [AAl];try omega)) only [↓AAp,AAk,AAn,AAo,eq_self,Nat.reduceEqDiff,↓reduceIte,↓AHv,gs,g3,g4,h85,A5Y]
    exact AAC (c.length - (k+1)) (by omega) (by simp) ⟨k+1,rfl,by omega,rfl,rfl⟩
   ·have hke:k=c.length:=by omega
    have hk2:¬ k<l.length+2:=by omega
    have e0:x85 (c.take k)++c.drop k=x85 c:=by rw [hke,List.take_length,List.drop_length,List.append_nil]
    have e1:List.drop k c=[]:=by rw [hke,List.drop_length]
    simp -dsimp (disch:=first | assumption | omega | (simp only [AAl];try omega)) only [↓AAp,AAk,AAn,AAo,eq_self,Nat.reduceEqDiff,↓reduceIte,↓AHv]
    rw [e1,List.append_nil]
    exact hk
end
section
open Go.RowKit
variable [AAE] [AA4] [AAx] [AAz] [ADH]
section
omit [AA4] [AAx] [AAz] [ADH]
theorem AZT (o:AL2) (hn:o.refs.length≤100000) (h20:∀ r∈o.refs,r.2.length=20):AAR Tryz.prog 14 [AYY o] (fun r=>r=AR4 o):=by
 refine AAs.toPureV (ATC (by simp) ?_)
 obtain ⟨hd,rs⟩:=o
 simp only at hn h20
 simp -dsimp (disch:=first | assumption | omega | (simp only [AAl];try omega)) only [↓AAp,AAk,AAn,AAo,eq_self,Nat.reduceEqDiff,↓reduceIte,Nat.reduceAdd,AYY,↓ASD,↓APE,↓AOt,↓APf]
 refine ACS (fun q e H=>∃ (i k v cp:Nat),q=rs.length - i∧i≤rs.length∧4≤H.length∧3≤k∧H[0]?=some (.obj 0 (.agg [ts hd,.sl 21 (rs.map ATx)]))∧H[1]?=some (.obj 0 (.agg [ts [],ANb]))∧H[2]?=some (.obj 0 (.agg [ts hd,.os 22 k v [] 0 i cp]))∧H[k]?=some (.obj v (.arr i 22 ((rs.take i).map AG7)))∧e=[(1,.op 0 0 []),(2,.op 1 0 []),(3,.op 2 0 []),(4,i64 (i:Int))]) rs.length ?_ ?_
 ·exact ⟨0,3,0,0,rfl,Nat.zero_le _,by simp,by simp,rfl,rfl,rfl,rfl,by simp [forget,get]⟩
 rintro q e H ⟨i,k,v,cp,rfl,hi,h4l,hk3,hH0,hH1,hH2,hHk,rfl⟩
 have hkl:=(List.getElem?_eq_some_iff.1 hHk).1
 have hl:((rs.take i).map AG7).length=i:=by rw [List.length_map,List.length_take,Nat.min_eq_left hi]
 have hrt:((rs.take i).map AG7).take i=(rs.take i).map AG7:=List.take_of_length_le (by omega)
 by_cases hil:i<rs.length
 case neg =>
  have hi2:i=rs.length:=by omega
  have htt:rs.take i=rs:=List.take_of_length_le (by omega)
  rw [htt] at hrt hHk hl
  have hl0:1<H.length:=by omega
  have hSk:∀ o:Ob,(H.set 1 o)[k]?=some (.obj v (.arr i 22 (rs.map AG7))):=fun o=>by rw [List.getElem?_set_ne (by omega)]; exact hHk
  have hS0:∀ o:Ob,(H.set 1 o)[1]?=some o:=fun o=>List.getElem?_set_self hl0
  simp -dsimp (disch:=first | assumption | omega | (simp only [AAl];try omega)) only [↓AAp,AAk,AAn,AAo,eq_self,Nat.reduceEqDiff,↓reduceIte,Nat.reduceAdd,hH0,hH1,hH2,hSk,hS0,hl,↓AHr,↓APO,↓ASo]
  rfl
 obtain ⟨⟨nm,id⟩,hr⟩:∃ r,rs[i]?=some r:=⟨_,List.getElem?_eq_getElem hil⟩
 have hid:id.length=20:=h20 _ (List.mem_of_getElem? hr)
 have hg:(rs.map ATx)[i]?=some (.agg [ts nm,.arr 20 1 (id.map by8)]):=by rw [List.getElem?_map,hr]; rfl
 have h20':(id.map by8).length=20:=by rw [List.length_map]; exact hid
 have hsn:(rs.take (i+1)).map AG7=(rs.take i).map AG7++[.agg [ts nm,.arr 20 1 (id.map by8),ts []]]:=by rw [List.take_add_one,hr,List.map_append]; rfl
 have hA:∀ T:List Ob,(H++T)[k]?=some (.obj v (.arr i 22 ((rs.take i).map AG7))):=fun T=>by rw [List.getElem?_append_left hkl]; exact hHk
 simp -dsimp (disch:=first | assumption | omega | (simp only [AAl];try omega)) only [↓AAp,AAk,AAn,AAo,eq_self,Nat.reduceEqDiff,↓reduceIte,Nat.reduceAdd,Nat.reduceLeDiff,hg,hH0,hH2,hA,hl,BdT,↓AHr,↓APD]
 refine AAC (rs.length - (i+1)) (by omega) (by simp<;>omega) ⟨i+1,k,v+1,i+1,rfl,by omega,by simp; omega,hk3,?_,?_,?_,?_,by simp [forget,get]⟩
 ·rw [ASq (by simp<;>omega) (by omega),List.getElem?_set_ne (by omega)]; exact hH0
 ·rw [ASq (by simp<;>omega) (by omega),List.getElem?_set_ne (by omega)]; exact hH1
 ·rw [AS2 (by simp<;>omega)]
 ·rw [ASq (by simp<;>omega) (by omega),List.getElem?_set_self (by omega),hsn]
end
omit [AA4] [AAx] [AAz] in
theorem AZC {o:AL2} (h:ADo o) (h20:AGt o) (hn:o.refs.length≤60):(AHl o).length≤70000:=by
 have h1:=A4b (wss:=AGZ o) fun ws hw=>(ASs h h20 ws hw).2
 have h2:(AGZ o).length≤61:=by
  unfold AGZ ABR
  split<;>simp<;>omega
 unfold AHl
 rw [List.length_append]
 show _+4≤_
 omega
theorem A1D (b:List UInt8) (hb:b.length≤70000):AAR Tryz.prog 16 [slB b] (fun r=>r=tb true):=by
 refine AAs.toPureV (ASR (by simp) ?_)
 have htk2:((b++[71,72]).map by8).take b.length=b.map by8:=by rw [List.map_append,List.take_append_of_le_length (by simp),List.take_of_length_le (by simp)]
 have hrd:=AX7 b (by omega)
 have hun:∀ l:List UInt8,(l.map by8).map APT=l:=fun l=>by
  rw [List.map_map]
  conv=>rhs; rw [←List.map_id l]
  exact List.map_congr_left fun x _=>by simp [APT]
 simp -dsimp (disch:=first | assumption | omega | (simp only [AAl];try omega)) only [↓AAp,AAk,AAn,AAo,eq_self,↓reduceIte,reduceCtorEq,↓ARV,↓AMy]
 refine AV7 (Beq b (by omega) ?_)
 simp -dsimp (disch:=first | assumption | omega | (simp only [AAl];try omega)) only [↓AAp,AAk,AAn,AAo,eq_self,↓reduceIte,reduceCtorEq,↓AN1]
 refine (A0q b (by omega)).lends (args':=[slB b]) (by simp -dsimp (disch:=first | assumption | omega | (simp only [AAl];try omega)) only [AAn,AAo,eq_self,↓reduceIte,Nat.reduceAdd,htk2]) fun r hr => ?_
 by_cases h:∃ o,ADo o∧AGt o∧AHl o=b
 ·obtain ⟨⟨hd,rs⟩,h1,h2,e⟩:=h
  rw [hr.1 _ h1 h2 e]
  have h500:=h1.2.1
  simp only at h500
  have r1:=hrd.mono fun r hr=>hr.1 _ h1 h2 e
  simp -dsimp (disch:=first | assumption | omega | (simp only [AAl];try omega)) only [↓AAp,AAk,AAn,AAo,eq_self,Nat.reduceEqDiff,↓reduceIte,Nat.reduceAdd,reduceCtorEq,AYY,↓AGI]
  refine AV7 (AYm b (by omega) rfl ?_)
  simp -dsimp (disch:=first | assumption | omega | (simp only [AAl];try omega)) only [↓AAp,AAk,AAn,AAo,eq_self,Nat.reduceEqDiff,↓reduceIte,reduceCtorEq,↓AGK]
  refine r1.calls rfl fun r hr => ?_
  subst hr
  simp -dsimp (disch:=first | assumption | omega | (simp only [AAl];try omega)) only [↓AAp,AAk,AAn,AAo,eq_self,Nat.reduceEqDiff,↓reduceIte,Nat.reduceAdd,reduceCtorEq,AR4,↓AGL]
  refine Bab.calls rfl fun r hr => ?_
  subst hr
  simp -dsimp (disch:=first | assumption | omega | (simp only [AAl];try omega)) only [↓AAp,AAk,AAn,AAo,eq_self,Nat.reduceEqDiff,↓reduceIte,Nat.reduceAdd,↓AGJ,↓AGG]
  refine ACS (fun q e H=>∃ (i:Nat),q=rs.length - i∧i≤rs.length∧3≤H.length∧H[1]?=some (.obj 0 (.agg [ts hd,.sl 21 (rs.map ATx)]))∧H[2]?=some (.obj 0 (.agg [ts hd,.sl 22 (rs.map AG7)]))∧e=[(4,.op 1 0 []),(7,.op 2 0 []),(9,i64 (i:Int))]) rs.length ?_ ?_
  ·exact ⟨0,rfl,Nat.zero_le _,by simp,rfl,rfl,by simp [forget,get]⟩
  rintro q e H ⟨i,rfl,hi,h3l,hH1,hH2,rfl⟩
  by_cases hil:i<rs.length
  case neg=>simp -dsimp (disch:=first | assumption | omega | (simp only [AAl];try omega)) only [↓AAp,AAk,AAn,AAo,eq_self,Nat.reduceEqDiff,↓reduceIte,Nat.reduceAdd,hH1,↓AC5,↓AG2,↓AKf]
  obtain ⟨⟨nm,id⟩,hr⟩:∃ r,rs[i]?=some r:=⟨_,List.getElem?_eq_getElem hil⟩
  have hid:id.length=20:=h2 _ (List.mem_of_getElem? hr)
  have hg:(rs.map ATx)[i]?=some (.agg [ts nm,.arr 20 1 (id.map by8)]):=by rw [List.getElem?_map,hr]; rfl
  have hgr:(rs.map AG7)[i]?=some (.agg [ts nm,.arr 20 1 (id.map by8),ts []]):=by rw [List.getElem?_map,hr]; rfl
  have h20':(id.map by8).length=20:=by rw [List.length_map]; exact hid
  simp -dsimp (disch:=first | assumption | omega | (simp only [AAl];try omega)) only [↓AAp,AAk,AAn,AAo,eq_self,Nat.reduceEqDiff,↓reduceIte,Nat.reduceAdd,hH1,hH2,hg,hgr,beq_self_eq_true,↓AC5,↓AN7]
  exact AAC (rs.length - (i+1)) (by omega) h3l ⟨i+1,rfl,by omega,h3l,hH1,hH2,by simp [forget,get]⟩
 ·have hno:∀ o,ADo o→AGt o→AHl o≠b:=fun o h1 h2 e=>h ⟨o,h1,h2,e⟩
  obtain ⟨n,hn,hrn⟩:∃ n:Nat,r = .tup [AMR,eno (n:Int)]∧AAR Tryz.prog 43 [slB b] (fun r=>r = .tup [AMR,i64 (n:Int)]):=by
   by_cases hL:∃ ls,AAG ls b
   ·obtain ⟨ls,hls⟩:=hL
    exact ⟨111,(hr.2 hno).1 ls hls,hrd.mono fun r h=>(h.2 hno).1 ls hls⟩
   ·have hL':∀ ls,¬ AAG ls b:=fun ls h=>hL ⟨ls,h⟩
    exact ⟨110,(hr.2 hno).2 hL',hrd.mono fun r h=>(h.2 hno).2 hL'⟩
  subst hn
  simp -dsimp (disch:=first | assumption | omega | (simp only [AAl];try omega)) only [↓AAp,AAk,AAn,AAo,eq_self,Nat.reduceEqDiff,↓reduceIte,Nat.reduceAdd,reduceCtorEq,AMR,↓AGI]
  refine AV7 (AYm b (by omega) rfl ?_)
  simp -dsimp (disch:=first | assumption | omega | (simp only [AAl];try omega)) only [↓AAp,AAk,AAn,AAo,eq_self,Nat.reduceEqDiff,↓reduceIte,reduceCtorEq,↓AGK]
  refine hrn.calls rfl fun r hr => ?_
  subst hr
  simp -dsimp (disch:=first | assumption | omega | (simp only [AAl];try omega)) only [↓AAp,AAk,AAn,AAo,eq_self,Nat.reduceEqDiff,↓reduceIte,Nat.reduceAdd,reduceCtorEq,AMR,↓AGL]
  refine BfC.calls rfl fun r hr => ?_
  subst hr
  simp -dsimp (disch:=first | assumption | omega | (simp only [AAl];try omega)) only [↓AAp,AAk,AAn,AAo,eq_self,Nat.reduceEqDiff,↓reduceIte,Nat.reduceAdd,↓AGJ,↓AGG]
  refine ACS (fun q e H=>3≤H.length∧H[1]?=some (.obj 0 (.agg [ts [],ANb]))∧e=[(4,.op 1 0 []),(7,.op 2 0 []),(9,i64 ((0:Nat):Int))]) 0 ⟨by simp,rfl,by simp [forget,get]⟩ ?_
  rintro q e H ⟨_,hH1,rfl⟩
  simp -dsimp (disch:=first | assumption | omega | (simp only [AAl];try omega)) only [↓AAp,AAk,AAn,AAo,eq_self,Nat.reduceLT,Nat.reduceEqDiff,↓reduceIte,Nat.reduceAdd,hH1,↓AC5,↓AG2,↓AKf]
theorem A3r (o:AL2) (b:List UInt8) (hh:o.head.length≤140737488351232) (hrl:o.refs.length≤140737488351232) (hr:∀ r∈o.refs,r.1.length≤2000000∧r.2.length=20) (hb:b.length≤140737488351232):AAR Tryz.prog 4 [AYY o,slB b] (fun r=>r=tb true):=by
 refine AAs.toPureV (ANo (by simp) ?_)
 have hO:∃ hd rs,o=⟨hd,rs⟩:=⟨o.head,o.refs,rfl⟩
 obtain ⟨hd,rs,rfl⟩:=hO
 simp only at hh hrl hr
 simp -dsimp (disch:=first | assumption | omega | (simp only [AAl];try omega)) only [↓AAp,AAk,AAn,AAo,eq_self,Nat.reduceEqDiff,↓reduceIte,Nat.reduceAdd,reduceCtorEq,AYY,↓AMK,↓AJh]
 by_cases hl:60<rs.length
 ·simp -dsimp (disch:=first | assumption | omega | (simp only [AAl];try omega)) only [↓AAp,AAk,AAn,AAo,eq_self,Nat.reduceEqDiff,↓reduceIte,↓ABn]
 by_cases hl2:6000<b.length
 ·simp -dsimp (disch:=first | assumption | omega | (simp only [AAl];try omega)) only [↓AAp,AAk,AAn,AAo,eq_self,Nat.reduceEqDiff,↓reduceIte,↓ABn]
 by_cases hl3:6000<hd.length
 ·simp -dsimp (disch:=first | assumption | omega | (simp only [AAl];try omega)) only [↓AAp,AAk,AAn,AAo,eq_self,Nat.reduceEqDiff,↓reduceIte,AAD,↓ABn]
 have hfit:AN6 ⟨hd,rs⟩:=⟨by simp only; omega,by simp only; omega,hr⟩
 have h20:∀ r∈rs,r.2.length=20:=fun r h=>(hr r h).2
 have hwo:=(ASu _ hfit).pure
 have hro:=(ARf _ hfit).pure
 have hto:=AZT ⟨hd,rs⟩ (by simp only; omega) h20
 have hrb:=A1D b (by omega)
 simp -dsimp (disch:=first | assumption | omega | (simp only [AAl];try omega)) only [↓AAp,AAk,AAn,AAo,eq_self,Nat.reduceEqDiff,↓reduceIte,Nat.reduceAdd,AAD,↓AJa]
 refine hwo.calls rfl fun r hr => ?_
 by_cases hok:ADo ⟨hd,rs⟩
 ·rw [hr.1 hok]
  have hrx:=A1D _ (AZC hok h20 (by simp only; omega))
  have hxl:=AZC hok h20 (by simp only; omega)
  have hro':=hro.mono fun r h=>h.1 hok
  generalize AHl ⟨hd,rs⟩=X at *
  simp -dsimp (disch:=first | assumption | omega | (simp only [AAl];try omega)) only [↓AAp,AAk,AAn,AAo,eq_self,Nat.reduceEqDiff,↓reduceIte,Nat.reduceAdd,↓AD1]
  refine hto.calls rfl fun r hr => ?_
  subst hr
  simp -dsimp (disch:=first | assumption | omega | (simp only [AAl];try omega)) only [↓AAp,AAk,AAn,AAo,eq_self,Nat.reduceEqDiff,↓reduceIte,Nat.reduceAdd,AR4,↓ADN]
  refine hro'.calls rfl fun r hr => ?_
  subst hr
  simp -dsimp (disch:=first | assumption | omega | (simp only [AAl];try omega)) only [↓AAp,AAk,AAn,AAo,eq_self,Nat.reduceEqDiff,↓reduceIte,↓ADS]
  refine (same X X (by omega) (by omega)).calls rfl fun r hr => ?_
  subst hr
  simp -dsimp (disch:=first | assumption | omega | (simp only [AAl];try omega)) only [↓AAp,AAk,AAn,AAo,eq_self,Nat.reduceEqDiff,↓reduceIte,↓ADM]
  refine Bab.calls rfl fun r hr => ?_
  subst hr
  simp -dsimp (disch:=first | assumption | omega | (simp only [AAl];try omega)) only [↓AAp,AAk,AAn,AAo,eq_self,Nat.reduceEqDiff,↓reduceIte,↓ADA]
  refine hrb.calls rfl fun r hr => ?_
  subst hr
  simp -dsimp (disch:=first | assumption | omega | (simp only [AAl];try omega)) only [↓AAp,AAk,AAn,AAo,eq_self,Nat.reduceEqDiff,↓reduceIte,↓ADX]
  refine hrx.calls rfl fun r hr => ?_
  subst hr
  simp -dsimp (disch:=first | assumption | omega | (simp only [AAl];try omega)) only [↓AAp,AAk,AAn,AAo,eq_self,Nat.reduceEqDiff,↓reduceIte,↓ABn]
 ·rw [hr.2 hok]
  have hro':=hro.mono fun r h=>h.2 hok
  simp -dsimp (disch:=first | assumption | omega | (simp only [AAl];try omega)) only [↓AAp,AAk,AAn,AAo,eq_self,Nat.reduceEqDiff,↓reduceIte,Nat.reduceAdd,↓AD1]
  refine hto.calls rfl fun r hr => ?_
  subst hr
  simp -dsimp (disch:=first | assumption | omega | (simp only [AAl];try omega)) only [↓AAp,AAk,AAn,AAo,eq_self,Nat.reduceEqDiff,↓reduceIte,Nat.reduceAdd,AR4,↓ADN]
  refine hro'.calls rfl fun r hr => ?_
  subst hr
  simp -dsimp (disch:=first | assumption | omega | (simp only [AAl];try omega)) only [↓AAp,AAk,AAn,AAo,eq_self,Nat.reduceEqDiff,↓reduceIte,↓ADS]
  refine ((same [] [] (by simp) (by simp)).argL (.cons AZp (.cons AZp .nil))).calls rfl fun r hr => ?_
  subst hr
  simp -dsimp (disch:=first | assumption | omega | (simp only [AAl];try omega)) only [↓AAp,AAk,AAn,AAo,eq_self,Nat.reduceEqDiff,↓reduceIte,↓ADM]
  refine BfC.calls rfl fun r hr => ?_
  subst hr
  simp -dsimp (disch:=first | assumption | omega | (simp only [AAl];try omega)) only [↓AAp,AAk,AAn,AAo,eq_self,Nat.reduceEqDiff,↓reduceIte,↓ADA]
  refine hrb.calls rfl fun r hr => ?_
  subst hr
  simp -dsimp (disch:=first | assumption | omega | (simp only [AAl];try omega)) only [↓AAp,AAk,AAn,AAo,eq_self,Nat.reduceEqDiff,↓reduceIte,reduceCtorEq,↓ADX,↓AI9,↓ABn]
end
section
open Go.RowKit
variable [AAE]
set_option maxRecDepth 100000 in
theorem AZK {R:Nat} {t:TypeId} (ht:Tryz.prog.underlying t=some (.array 20 5)) (hn:Tryz.prog.cellsOf t=20):AF8 R Tryz.prog t (fun l:List UInt8 => .arr 20 1 (l.map by8)) (fun l=>l.length=20) :=
 AH2 (AXt ht (k:=1) (by kernel_rfl) (by rw [hn]) (AXE Tryz.underlying5) (fun _ _=>rfl)) fun l h=>⟨l,rfl,h.1⟩
set_option maxRecDepth 100000 in
theorem AZO {R:Nat}:AF8 R Tryz.prog 86 (fun r:A3v=>ATx r) (fun r=>r.1.length≤R∧r.2.length=20):=by
 refine AH2 (APx Tryz.underlying86 (by kernel_rfl) (AHx (off:=0) (n:=1) rfl (by kernel_rfl) (APd Tryz.underlying9) (AHx (off:=1) (n:=20) rfl (by kernel_rfl) (AZK Tryz.underlying67 (by kernel_rfl)) ATk))) fun x h => ?_
 obtain ⟨n,i,u⟩:=x
 exact ⟨(n,i),rfl,h.1,h.2.1⟩
def A9Z (R:Nat) (o:AL2):Prop:=o.head.length≤R∧o.refs.length≤140737488351232∧∀ r∈o.refs,r.1.length≤R∧r.2.length=20
set_option maxRecDepth 100000 in
theorem AWz {R:Nat}:AF8 R Tryz.prog 39 (fun o:AL2=>AYY o) (A9Z R):=by
 refine AH2 (APx Tryz.underlying39 (by kernel_rfl) (AHx (off:=0) (n:=1) rfl (by kernel_rfl) (APd Tryz.underlying9) (AHx (off:=1) (n:=1) rfl (by kernel_rfl) (ARj Tryz.underlying37 (k:=21) (by kernel_rfl) (B:=40) (by kernel_rfl) AZO (fun r h=>by unfold ATx; simp [AAu,AA1]) (by omega)) ATk))) fun x h => ?_
 obtain ⟨n,i,u⟩:=x
 exact ⟨⟨n,i⟩,rfl,h.1,by have:=h.2.1.2.1; simp only at *; omega,h.2.1.1⟩
end
end Go.Proofs.YtnikbdnebdmmiaaGreatDoor
namespace Go.Proofs.YtnikbdnebdmmiaaGreatDoor.wireOffers
open Go.ChangeShapes Go.WideShapes Go.ChangeAt Go.RowKit
theorem own:ownKnob Tryz.prog.godebug=none:=by kernel_rfl
mutual
def A7w:DataW Unit→List Value
 | .lit (.int k n)=>[.int k n]
 | .lit (.string l)=>[.string ⟨l.toArray⟩]
 | .agg l=>A92 l
 | _=>[]
def A92:List (DataW Unit)→List Value
 | []=>[]
 | d::l=>A7w d++A92 l
end
abbrev giM (t0:TypeId) (a0:Addr) (t1:TypeId) (a1:Addr) (m:Int):AAE:=⟨[(0,ABw),(7,AAP),(8,AAQ),(2,AAF),(4,GV.one (.iface t0 (.pointer (some a0)))),(3,GV.one (.iface t1 (.pointer (some a1)))),(1,GV.one (.int .i64 m))],by kernel_rfl⟩
theorem AO5 (t0:TypeId) (a0:Addr) (t1:TypeId) (a1:Addr) (m:Int):@AA4 (giM t0 a0 t1 a1 m):=@AA4.mk (giM t0 a0 t1 a1 m) (by kernel_rfl)
theorem AHL (t0:TypeId) (a0:Addr) (t1:TypeId) (a1:Addr) (m:Int):@ABP (giM t0 a0 t1 a1 m):=@ABP.mk (giM t0 a0 t1 a1 m) (by kernel_rfl)
theorem AHN (t0:TypeId) (a0:Addr) (t1:TypeId) (a1:Addr) (m:Int):@ABO (giM t0 a0 t1 a1 m):=@ABO.mk (giM t0 a0 t1 a1 m) (by kernel_rfl)
theorem AFh (t0:TypeId) (a0:Addr) (t1:TypeId) (a1:Addr) (m:Int):@AA3 (giM t0 a0 t1 a1 m):=@AA3.mk (giM t0 a0 t1 a1 m) (by kernel_rfl)
theorem AO3 (t0:TypeId) (a0:Addr) (t1:TypeId) (a1:Addr) (m:Int):@AAz (giM t0 a0 t1 a1 m):=@AAz.mk (giM t0 a0 t1 a1 m) ⟨t0,a0,by kernel_rfl⟩
theorem ANp (t0:TypeId) (a0:Addr) (t1:TypeId) (a1:Addr) (m:Int):@AAx (giM t0 a0 t1 a1 m):=@AAx.mk (giM t0 a0 t1 a1 m) ⟨t1,a1,by kernel_rfl⟩
theorem et:Tryz.prog.globalNamed "errors.errorType" = some 0:=by kernel_rfl
theorem rt:(Tryz.prog.cutTypes.find? (·.1 == "internal/reflectlite.rtype")).map (·.2)=some 170:=by kernel_rfl
theorem BaZ:((List.range Tryz.prog.types.size).filter fun t=>Tryz.prog.rowNamed t [101,114,114,111,114])=[25]:=by kernel_rfl
theorem ATG {W:World} (h:handlesMet Tryz.prog [("errors.errorType", Rows.laid_errors_errorType)] W):∃ t fr,W.heap[0]?=some (.cells ABw.cells.toArray t fr):=by
 obtain ⟨name,u,ty,e1,e2,e3,e4,e5⟩:=h _ (List.mem_singleton.2 rfl)
 have en:name=[101,114,114,111,114]:=(Option.some.inj e1).symm
 subst en
 obtain rfl:=Option.some.inj (rt.symm.trans e2)
 have hm:ty∈(List.range Tryz.prog.types.size).filter fun t=>Tryz.prog.rowNamed t [101,114,114,111,114]:=List.mem_filter.2 ⟨List.mem_range.2 e3,e4⟩
 rw [BaZ] at hm
 obtain rfl:=List.mem_singleton.1 hm
 have hh:typeHandle Tryz.prog 25 = .pointer (some ⟨9,25,none⟩):=by kernel_rfl
 rw [hh] at e5
 exact AVE et e5
def AHb:List (DataW Unit):=[.lit (.int .u8 0),.lit (.int .u8 1),.lit (.int .u8 28),.lit (.int .u8 2),.lit (.int .u8 29),.lit (.int .u8 14),.lit (.int .u8 24),.lit (.int .u8 3),.lit (.int .u8 30),.lit (.int .u8 22),.lit (.int .u8 20),.lit (.int .u8 15),.lit (.int .u8 25),.lit (.int .u8 17),.lit (.int .u8 4),.lit (.int .u8 8),.lit (.int .u8 31),.lit (.int .u8 27),.lit (.int .u8 13),.lit (.int .u8 23),.lit (.int .u8 21),.lit (.int .u8 19),.lit (.int .u8 16),.lit (.int .u8 7),.lit (.int .u8 26),.lit (.int .u8 12),.lit (.int .u8 18),.lit (.int .u8 6),.lit (.int .u8 11),.lit (.int .u8 5),.lit (.int .u8 10),.lit (.int .u8 9)]
theorem AG8 {W:World} (h:laidMet Tryz.prog [("math/bits.deBruijn32tab", Rows.laid_math_bits_deBruijn32tab),("math/bits.deBruijn64tab", Rows.laid_math_bits_deBruijn64tab),("internal/strconv.uint64pow10", Rows.laid_internal_strconv_uint64pow10),("unicode/utf8.acceptRanges", Rows.laid_unicode_utf8_acceptRanges),("strconv.ErrRange", Rows.laid_strconv_ErrRange),("strconv.ErrSyntax", Rows.laid_strconv_ErrSyntax),("unicode/utf8.first", Rows.laid_unicode_utf8_first)] W):∃ t fr,W.heap[7]?=some (.cells AAP.cells.toArray t fr) :=
 AU6 (t:=(Tryz.prog.globals[7]?).elim 0 (·.type)) (e:=match Tryz.prog.underlying ((Tryz.prog.globals[7]?).elim 0 (·.type)) with | some (.array _ e)=>e | _=>0) (n:=AAP.cells.length) h (List.mem_of_getElem? (i:=0) (show [("math/bits.deBruijn32tab", Rows.laid_math_bits_deBruijn32tab),("math/bits.deBruijn64tab", Rows.laid_math_bits_deBruijn64tab),("internal/strconv.uint64pow10", Rows.laid_internal_strconv_uint64pow10),("unicode/utf8.acceptRanges", Rows.laid_unicode_utf8_acceptRanges),("strconv.ErrRange", Rows.laid_strconv_ErrRange),("strconv.ErrSyntax", Rows.laid_strconv_ErrSyntax),("unicode/utf8.first", Rows.laid_unicode_utf8_first)][0]?=some ("math/bits.deBruijn32tab", DataW.agg AHb) by kernel_rfl)) (by kernel_rfl) (by kernel_rfl) (by kernel_rfl) (by kernel_rfl) (by kernel_rfl) (by kernel_rfl) (by kernel_rfl)
def AHa:List (DataW Unit):=[.lit (.int .u8 0),.lit (.int .u8 1),.lit (.int .u8 56),.lit (.int .u8 2),.lit (.int .u8 57),.lit (.int .u8 49),.lit (.int .u8 28),.lit (.int .u8 3),.lit (.int .u8 61),.lit (.int .u8 58),.lit (.int .u8 42),.lit (.int .u8 50),.lit (.int .u8 38),.lit (.int .u8 29),.lit (.int .u8 17),.lit (.int .u8 4),.lit (.int .u8 62),.lit (.int .u8 47),.lit (.int .u8 59),.lit (.int .u8 36),.lit (.int .u8 45),.lit (.int .u8 43),.lit (.int .u8 51),.lit (.int .u8 22),.lit (.int .u8 53),.lit (.int .u8 39),.lit (.int .u8 33),.lit (.int .u8 30),.lit (.int .u8 24),.lit (.int .u8 18),.lit (.int .u8 12),.lit (.int .u8 5),.lit (.int .u8 63),.lit (.int .u8 55),.lit (.int .u8 48),.lit (.int .u8 27),.lit (.int .u8 60),.lit (.int .u8 41),.lit (.int .u8 37),.lit (.int .u8 16),.lit (.int .u8 46),.lit (.int .u8 35),.lit (.int .u8 44),.lit (.int .u8 21),.lit (.int .u8 52),.lit (.int .u8 32),.lit (.int .u8 23),.lit (.int .u8 11),.lit (.int .u8 54),.lit (.int .u8 26),.lit (.int .u8 40),.lit (.int .u8 15),.lit (.int .u8 34),.lit (.int .u8 20),.lit (.int .u8 31),.lit (.int .u8 10),.lit (.int .u8 25),.lit (.int .u8 14),.lit (.int .u8 19),.lit (.int .u8 9),.lit (.int .u8 13),.lit (.int .u8 8),.lit (.int .u8 7),.lit (.int .u8 6)]
theorem AG9 {W:World} (h:laidMet Tryz.prog [("math/bits.deBruijn32tab", Rows.laid_math_bits_deBruijn32tab),("math/bits.deBruijn64tab", Rows.laid_math_bits_deBruijn64tab),("internal/strconv.uint64pow10", Rows.laid_internal_strconv_uint64pow10),("unicode/utf8.acceptRanges", Rows.laid_unicode_utf8_acceptRanges),("strconv.ErrRange", Rows.laid_strconv_ErrRange),("strconv.ErrSyntax", Rows.laid_strconv_ErrSyntax),("unicode/utf8.first", Rows.laid_unicode_utf8_first)] W):∃ t fr,W.heap[8]?=some (.cells AAQ.cells.toArray t fr) :=
 AU6 (t:=(Tryz.prog.globals[8]?).elim 0 (·.type)) (e:=match Tryz.prog.underlying ((Tryz.prog.globals[8]?).elim 0 (·.type)) with | some (.array _ e)=>e | _=>0) (n:=AAQ.cells.length) h (List.mem_of_getElem? (i:=1) (show [("math/bits.deBruijn32tab", Rows.laid_math_bits_deBruijn32tab),("math/bits.deBruijn64tab", Rows.laid_math_bits_deBruijn64tab),("internal/strconv.uint64pow10", Rows.laid_internal_strconv_uint64pow10),("unicode/utf8.acceptRanges", Rows.laid_unicode_utf8_acceptRanges),("strconv.ErrRange", Rows.laid_strconv_ErrRange),("strconv.ErrSyntax", Rows.laid_strconv_ErrSyntax),("unicode/utf8.first", Rows.laid_unicode_utf8_first)][1]?=some ("math/bits.deBruijn64tab", DataW.agg AHa) by kernel_rfl)) (by kernel_rfl) (by kernel_rfl) (by kernel_rfl) (by kernel_rfl) (by kernel_rfl) (by kernel_rfl) (by kernel_rfl)
def AEE:List (DataW Unit):=[.lit (.int .u64 1),.lit (.int .u64 10),.lit (.int .u64 100),.lit (.int .u64 1000),.lit (.int .u64 10000),.lit (.int .u64 100000),.lit (.int .u64 1000000),.lit (.int .u64 10000000),.lit (.int .u64 100000000),.lit (.int .u64 1000000000),.lit (.int .u64 10000000000),.lit (.int .u64 100000000000),.lit (.int .u64 1000000000000),.lit (.int .u64 10000000000000),.lit (.int .u64 100000000000000),.lit (.int .u64 1000000000000000),.lit (.int .u64 10000000000000000),.lit (.int .u64 100000000000000000),.lit (.int .u64 1000000000000000000),.lit (.int .u64 10000000000000000000)]
theorem AEU {W:World} (h:laidMet Tryz.prog [("math/bits.deBruijn32tab", Rows.laid_math_bits_deBruijn32tab),("math/bits.deBruijn64tab", Rows.laid_math_bits_deBruijn64tab),("internal/strconv.uint64pow10", Rows.laid_internal_strconv_uint64pow10),("unicode/utf8.acceptRanges", Rows.laid_unicode_utf8_acceptRanges),("strconv.ErrRange", Rows.laid_strconv_ErrRange),("strconv.ErrSyntax", Rows.laid_strconv_ErrSyntax),("unicode/utf8.first", Rows.laid_unicode_utf8_first)] W):∃ t fr,W.heap[2]?=some (.cells AAF.cells.toArray t fr) :=
 AU6 (t:=(Tryz.prog.globals[2]?).elim 0 (·.type)) (e:=match Tryz.prog.underlying ((Tryz.prog.globals[2]?).elim 0 (·.type)) with | some (.array _ e)=>e | _=>0) (n:=AAF.cells.length) h (List.mem_of_getElem? (i:=2) (show [("math/bits.deBruijn32tab", Rows.laid_math_bits_deBruijn32tab),("math/bits.deBruijn64tab", Rows.laid_math_bits_deBruijn64tab),("internal/strconv.uint64pow10", Rows.laid_internal_strconv_uint64pow10),("unicode/utf8.acceptRanges", Rows.laid_unicode_utf8_acceptRanges),("strconv.ErrRange", Rows.laid_strconv_ErrRange),("strconv.ErrSyntax", Rows.laid_strconv_ErrSyntax),("unicode/utf8.first", Rows.laid_unicode_utf8_first)][2]?=some ("internal/strconv.uint64pow10", DataW.agg AEE) by kernel_rfl)) (by kernel_rfl) (by kernel_rfl) (by kernel_rfl) (by kernel_rfl) (by kernel_rfl) (by kernel_rfl) (by kernel_rfl)
theorem BfH : "*" ++ "errors.errorString" = "*errors.errorString" := by decide
theorem A60 (u:TypeId) (h:Tryz.prog.typeName? 3 u=some "*errors.errorString"):u=232 :=
 typeName_ptr_named (nm := "errors.errorString") (by rw [BfH]; kernel_rfl) (by kernel_rfl) (by decide) u (by rw [BfH]; exact h)
theorem AMJ {W:World} (h:laidMet Tryz.prog [("math/bits.deBruijn32tab", Rows.laid_math_bits_deBruijn32tab),("math/bits.deBruijn64tab", Rows.laid_math_bits_deBruijn64tab),("internal/strconv.uint64pow10", Rows.laid_internal_strconv_uint64pow10),("unicode/utf8.acceptRanges", Rows.laid_unicode_utf8_acceptRanges),("strconv.ErrRange", Rows.laid_strconv_ErrRange),("strconv.ErrSyntax", Rows.laid_strconv_ErrSyntax),("unicode/utf8.first", Rows.laid_unicode_utf8_first)] W):∃ (a:Addr) (t:TypeId) (fr:Nat×Nat),W.heap[4]?=some (.cells #[.iface 232 (.pointer (some a))] t fr):=by
 have h2:laidMet Tryz.prog (("strconv.ErrRange", DataW.iface "*errors.errorString" (.ptr (.agg [.lit (.string [118,97,108,117,101,32,111,117,116,32,111,102,32,114,97,110,103,101])])))::[("strconv.ErrSyntax", Rows.laid_strconv_ErrSyntax),("unicode/utf8.first", Rows.laid_unicode_utf8_first)]) W:=h.tail.tail.tail.tail
 have hg:Tryz.prog.globalNamed "strconv.ErrRange" = some 4:=by kernel_rfl
 obtain ⟨a,s,hv,_⟩:=laid_sentinel h2 hg (show (Tryz.prog.globals[4]?).map (·.type)=some 25 by kernel_rfl) Tryz.underlying25 A60 Tryz.underlying232 Tryz.underlying234 rfl rfl Tryz.underlying9 (by kernel_rfl) (by kernel_rfl)
 exact ⟨a,AVE hg hv⟩
theorem ALO {W:World} (h:laidMet Tryz.prog [("math/bits.deBruijn32tab", Rows.laid_math_bits_deBruijn32tab),("math/bits.deBruijn64tab", Rows.laid_math_bits_deBruijn64tab),("internal/strconv.uint64pow10", Rows.laid_internal_strconv_uint64pow10),("unicode/utf8.acceptRanges", Rows.laid_unicode_utf8_acceptRanges),("strconv.ErrRange", Rows.laid_strconv_ErrRange),("strconv.ErrSyntax", Rows.laid_strconv_ErrSyntax),("unicode/utf8.first", Rows.laid_unicode_utf8_first)] W):∃ (a:Addr) (t:TypeId) (fr:Nat×Nat),W.heap[3]?=some (.cells #[.iface 232 (.pointer (some a))] t fr):=by
 have h2:laidMet Tryz.prog (("strconv.ErrSyntax", DataW.iface "*errors.errorString" (.ptr (.agg [.lit (.string [105,110,118,97,108,105,100,32,115,121,110,116,97,120])])))::[("unicode/utf8.first", Rows.laid_unicode_utf8_first)]) W:=h.tail.tail.tail.tail.tail
 have hg:Tryz.prog.globalNamed "strconv.ErrSyntax" = some 3:=by kernel_rfl
 obtain ⟨a,s,hv,_⟩:=laid_sentinel h2 hg (show (Tryz.prog.globals[3]?).map (·.type)=some 25 by kernel_rfl) Tryz.underlying25 A60 Tryz.underlying232 Tryz.underlying234 rfl rfl Tryz.underlying9 (by kernel_rfl) (by kernel_rfl)
 exact ⟨a,AVE hg hv⟩
theorem AWU {W:World} (h:laidMetH Tryz.prog Rows.wireOffersUptoRow.laid W) (hsh:W.ShapedOpen Tryz.prog):∃ t0 a0 t1 a1 m,@AFv (giM t0 a0 t1 a1 m) (fun b=>b<W.heap.size) W:=by
 have h':laidMet Tryz.prog [("math/bits.deBruijn32tab", Rows.laid_math_bits_deBruijn32tab),("math/bits.deBruijn64tab", Rows.laid_math_bits_deBruijn64tab),("internal/strconv.uint64pow10", Rows.laid_internal_strconv_uint64pow10),("unicode/utf8.acceptRanges", Rows.laid_unicode_utf8_acceptRanges),("strconv.ErrRange", Rows.laid_strconv_ErrRange),("strconv.ErrSyntax", Rows.laid_strconv_ErrSyntax),("unicode/utf8.first", Rows.laid_unicode_utf8_first)] W∧handlesMet Tryz.prog [("errors.errorType", Rows.laid_errors_errorType)] W:=h
 obtain ⟨a0,e0⟩:=AMJ h'.1
 obtain ⟨a1,e1⟩:=ALO h'.1
 obtain ⟨m,tt,fr,hh⟩:=AVC (k := .i64) (zero := #[.int .i64 0]) (g:=1) (t:=3) hsh (of_decide_eq_true (by kernel_rfl)) (by kernel_rfl) rfl (by kernel_rfl) (by kernel_rfl) Tryz.underlying3
 refine ⟨232,a0,232,a1,m,?_⟩
 letI:=giM 232 a0 232 a1 m
 intro g x hx
 have hm:=A0y hx
 have hm':(g,x)∈([(0,ABw),(7,AAP),(8,AAQ),(2,AAF),(4,GV.one (.iface 232 (.pointer (some a0)))),(3,GV.one (.iface 232 (.pointer (some a1)))),(1,GV.one (.int .i64 m))]:List (Nat×GV)):=hm
 simp only [List.mem_cons,List.mem_nil_iff,or_false,Prod.mk.injEq] at hm'
 have key:∃ t fr,W.heap[g]?=some (.cells x.cells.toArray t fr):=by
  rcases hm' with ⟨rfl,rfl⟩ | ⟨rfl,rfl⟩ | ⟨rfl,rfl⟩ | ⟨rfl,rfl⟩ | ⟨rfl,rfl⟩ | ⟨rfl,rfl⟩ | ⟨rfl,rfl⟩
  ·exact ATG h'.2
  ·exact AG8 h'.1
  ·exact AG9 h'.1
  ·exact AEU h'.1
  ·exact e0
  ·exact e1
  ·exact ⟨tt,fr,hh⟩
 obtain ⟨t,fr,hk⟩:=key
 exact ⟨(Array.getElem?_eq_some_iff.1 hk).1,t,fr,hk⟩
noncomputable def ASG (os:Os):World :=
 let w0:=World.holding Tryz.prog os ⟨#[],#[.agg #[.string ⟨#[]⟩,.slice none 0 0],.slice none 0 0],[]⟩
 let w1:={ w0 with heap:=w0.heap.modify 0 fun
   | .cells _ t frozen => .cells ABw.cells.toArray t frozen
   | o=>o }
 let w2:={ w1 with heap:=w1.heap.modify 7 fun
   | .cells _ t frozen => .cells AAP.cells.toArray t frozen
   | o=>o }
 let w3:={ w2 with heap:=w2.heap.modify 8 fun
   | .cells _ t frozen => .cells AAQ.cells.toArray t frozen
   | o=>o }
 let w4:={ w3 with heap:=w3.heap.modify 2 fun
   | .cells _ t frozen => .cells AAF.cells.toArray t frozen
   | o=>o }
 let w5:={ w4 with heap:=w4.heap.modify 6 fun
   | .cells _ t frozen => .cells (A7w Rows.laid_unicode_utf8_acceptRanges).toArray t frozen
   | o=>o }
 let w6:={ w5 with heap:=w5.heap.modify 5 fun
   | .cells _ t frozen => .cells (A7w Rows.laid_unicode_utf8_first).toArray t frozen
   | o=>o }
 let w7:={ w6 with heap:=(w6.heap.push (.cells #[.string ⟨([118,97,108,117,101,32,111,117,116,32,111,102,32,114,97,110,103,101]:List UInt8).toArray⟩] 234 (0,0))).modify 4 fun
   | .cells _ t frozen => .cells #[.iface 232 (.pointer (some ⟨w6.heap.size,0,none⟩))] t frozen
   | o=>o }
 let w8:={ w7 with heap:=(w7.heap.push (.cells #[.string ⟨([105,110,118,97,108,105,100,32,115,121,110,116,97,120]:List UInt8).toArray⟩] 234 (0,0))).modify 3 fun
   | .cells _ t frozen => .cells #[.iface 232 (.pointer (some ⟨w7.heap.size,0,none⟩))] t frozen
   | o=>o }
 w8
theorem AUN (os:Os) (args:Array Value):laidMetH Tryz.prog Rows.wireOffersUptoRow.laid ((ASG os).forCall (fun _ _=>0) ⟨#[],args,[]⟩).memory :=
 laidMetH_of_parts (laidMet_of_run' 8 (by kernel_rfl) (by kernel_rfl)) (by kernel_rfl)
theorem reads (os:Os) {H:Type} (enc:TypeId×Value→H):∃ places,DataW.whole enc Tryz.prog ((ASG os).forCall (fun _ _=>0) ⟨#[],#[.agg #[.string ⟨#[]⟩,.slice none 0 0],.slice none 0 0],[]⟩).memory Tryz.f4.params.toList Rows.wireOffersSpec.vars false (#[.agg #[.string ⟨#[]⟩,.slice none 0 0],.slice none 0 0]:Array Value).toList 8=some ([.agg [.lit (.string []),.nil],.nil],[],places):=⟨[],by kernel_rfl⟩
mutual
theorem A0Y {H:Type}:∀ (d:DataW H) (n:Nat),n∈AWB d→n≤Rows.uptoBulk d
 | .lit l,n,h=>by
  cases l<;>first
   | (simp [AWB] at h; done)
   | (simp only [AWB,List.mem_singleton] at h; subst h; simp only [Rows.uptoBulk]; omega)
 | .slice el sp,n,h=>by
  rw [AWB] at h
  have:=AMv el n h
  simp only [Rows.uptoBulk]; omega
 | .agg ps,n,h=>by
  rw [AWB] at h
  have:=AMv ps n h
  simp only [Rows.uptoBulk]; omega
 | .nil,n,h=>by simp [AWB] at h
 | .ptr _,n,h=>by simp [AWB] at h
 | .iface _ _,n,h=>by simp [AWB] at h
 | .map _,n,h=>by simp [AWB] at h
 | .held _,n,h=>by simp [AWB] at h
theorem AMv {H:Type}:∀ (ds:List (DataW H)) (n:Nat),n∈AOc ds→n≤Rows.uptoBulkAll ds
 | [],n,h=>by simp [AOc] at h
 | d::ds,n,h=>by
  rw [AOc,List.mem_append] at h
  simp only [Rows.uptoBulkAll]
  rcases h with h | h
  ·have:=A0Y d n h; omega
  ·have:=AMv ds n h; omega
end
theorem A5u {H:Type} {ds:List (DataW H)} (h:Rows.uptoSmall H (ds++[])=true):(AOc ds).all (· ≤ 1048576)=true:=by
 rw [List.append_nil] at h
 have h1:Rows.uptoBulkAll ds≤1048576:=of_decide_eq_true h
 exact List.all_eq_true.2 fun n hn=>decide_eq_true (Nat.le_trans (AMv ds n hn) h1)
theorem A8r:laidOutB Tryz.prog=true∧mapsRowed Tryz.prog=true :=
 have H:=ClosedOfChecked.allSpec_of Tryz.checked.wellFormed (by kernel_rfl:Tryz.checked.prog.types=Tryz.checked.src.types)
 ⟨ClosedOfChecked.laidOutB_of H (by kernel_rfl),ClosedOfChecked.mapsRowed_of H⟩
theorem AC3 {a b:Bool} (h:a=true) (k:b=true):(a && b)=true:=by rw [h,k]; rfl
theorem BdF:(Rows.wireOffersUptoRow.wf (OpenSpec.ofChange (Rows.OpenSpec.upto Rows.wireOffersSpec).bare))=true:=by kernel_rfl
theorem BdN:(laidOutB Tryz.prog)=true:=A8r.1
theorem Bfm:(mapsRowed Tryz.prog)=true:=A8r.2
theorem Bfg:(Tryz.f4.params.all (Tryz.prog.readableRec ·))=true:=by kernel_rfl
theorem BeS:(namedTie Tryz.prog Rows.wireOffersUptoRow.named (Rows.OpenSpec.upto Rows.wireOffersSpec).bare.vars)=true:=by kernel_rfl
theorem Bfj:((Rows.wireOffersUptoRow.stops == []))=true:=by kernel_rfl
theorem BdH:((Tryz.prog.stops == []))=true:=by kernel_rfl
theorem BeP:((Rows.wireOffersUptoRow.knobs == []))=true:=by kernel_rfl
theorem BeC:((Tryz.prog.stopKnobs == []))=true:=by kernel_rfl
theorem Beu:((Rows.wireOffersUptoRow.inPlace == Tryz.prog.inPlace 4))=true:=by kernel_rfl
theorem Bb0:((Rows.wireOffersUptoRow.unfollowed == Tryz.prog.unfollowed 4))=true:=by kernel_rfl
theorem Bas:((Rows.wireOffersUptoRow.recurses == Tryz.prog.recurses 4))=true:=by kernel_rfl
theorem BbF:((Rows.wireOffersUptoRow.named == Tryz.prog.varsNamed 4))=true:=by kernel_rfl
theorem BbV:((Rows.wireOffersUptoRow.maps == (Tryz.f4.params.toList++(Rows.OpenSpec.upto Rows.wireOffersSpec).bare.plain.varTypes Tryz.prog).any (Tryz.prog.mapsRec ·)))=true:=by kernel_rfl
theorem BaJ:((Rows.wireOffersUptoRow.ifaces == (Tryz.f4.params.toList++(Rows.OpenSpec.upto Rows.wireOffersSpec).bare.plain.varTypes Tryz.prog).any (Tryz.prog.ifacesRec ·)))=true:=by kernel_rfl
theorem A96:((Rows.wireOffersUptoRow.mapsOut == Tryz.prog.mapsAmong Tryz.f4.resultTypes.toList))=true:=by kernel_rfl
theorem Bbg:((Rows.wireOffersUptoRow.loops == (Tryz.f4.params.toList++(Rows.OpenSpec.upto Rows.wireOffersSpec).bare.plain.varTypes Tryz.prog).any (Tryz.prog.loopsFrom ·)))=true:=by kernel_rfl
theorem Bbk:((Rows.wireOffersUptoRow.wideKeys == (Tryz.f4.params.toList++(Rows.OpenSpec.upto Rows.wireOffersSpec).bare.plain.varTypes Tryz.prog++Tryz.f4.resultTypes.toList).any (Tryz.prog.wideKeysFrom ·)))=true:=by kernel_rfl
theorem Bbw:((Rows.OpenSpec.upto Rows.wireOffersSpec).bare.vars.all (Tryz.prog.varReadable ·))=true:=by kernel_rfl
theorem Bb1:(Tryz.f4.resultTypes.all (fun t=>Tryz.prog.readableRec t && decide (t<Tryz.prog.types.size)))=true:=by kernel_rfl
theorem Bcr:((Rows.wireOffersUptoRow.ifacesOut == Tryz.f4.resultTypes.toList.any (Tryz.prog.ifacesRec ·)))=true:=by kernel_rfl
theorem Bca:((Rows.wireOffersUptoRow.loopsOut == Tryz.f4.resultTypes.toList.any (Tryz.prog.loopsFrom ·)))=true:=by kernel_rfl
theorem Bbs:((Rows.wireOffersUptoRow.plainKeys == Tryz.prog.plainKeys))=true:=by kernel_rfl
theorem Bct:(Rows.wireOffersUptoRow.shortTexts.isNone)=true:=by kernel_rfl
theorem A9K:(Tryz.prog.stopsHeard)=true:=by kernel_rfl
theorem Bba:(Tryz.prog.mayEnter)=true:=by kernel_rfl
theorem Bam:((Rows.wireOffersUptoRow.lifted == Tryz.prog.liftsFinal))=true:=by kernel_rfl
theorem BaR:((Tryz.prog.make == some Rows.wireOffersUptoRow.make))=true:=by kernel_rfl
theorem BbS:((Rows.wireOffersUptoRow.kinds == (if Rows.wireOffersUptoRow.domain.isEmpty then [] else Tryz.f4.params.toList.map fun t=>match Tryz.prog.underlying t with | some (.int k)=>some k | _=>none)))=true:=by kernel_rfl
theorem Bb4:((Rows.wireOffersUptoRow.pinned == Rows.wireOffersUptoRow.pinnedBy))=true:=by kernel_rfl
theorem Bcu:((Rows.wireOffersUptoRow.veiled == (Tryz.f4.params.toList++(Rows.OpenSpec.upto Rows.wireOffersSpec).bare.plain.varTypes Tryz.prog++Tryz.f4.resultTypes.toList).any (Tryz.prog.veiledRec ·)))=true:=by kernel_rfl
theorem Bb7:(Rows.wireOffersUptoRow.veiledFits Tryz.prog Tryz.f4.params.toList (Tryz.f4.params.toList++(Rows.OpenSpec.upto Rows.wireOffersSpec).bare.plain.varTypes Tryz.prog++Tryz.f4.resultTypes.toList))=true:=by kernel_rfl
set_option maxRecDepth 100000 in
theorem A5N:((Rows.wireOffersUptoRow.wf (OpenSpec.ofChange (Rows.OpenSpec.upto Rows.wireOffersSpec).bare)) && (laidOutB Tryz.prog) && (mapsRowed Tryz.prog) && (Tryz.f4.params.all (Tryz.prog.readableRec ·)) && (namedTie Tryz.prog Rows.wireOffersUptoRow.named (Rows.OpenSpec.upto Rows.wireOffersSpec).bare.vars) && ((Rows.wireOffersUptoRow.stops == [])) && ((Tryz.prog.stops == [])) && ((Rows.wireOffersUptoRow.knobs == [])) && ((Tryz.prog.stopKnobs == [])) && ((Rows.wireOffersUptoRow.inPlace == Tryz.prog.inPlace 4)) && ((Rows.wireOffersUptoRow.unfollowed == Tryz.prog.unfollowed 4)) && ((Rows.wireOffersUptoRow.recurses == Tryz.prog.recurses 4)) && ((Rows.wireOffersUptoRow.named == Tryz.prog.varsNamed 4)) && ((Rows.wireOffersUptoRow.maps == (Tryz.f4.params.toList++(Rows.OpenSpec.upto Rows.wireOffersSpec).bare.plain.varTypes Tryz.prog).any (Tryz.prog.mapsRec ·))) && ((Rows.wireOffersUptoRow.ifaces == (Tryz.f4.params.toList++(Rows.OpenSpec.upto Rows.wireOffersSpec).bare.plain.varTypes Tryz.prog).any (Tryz.prog.ifacesRec ·))) && ((Rows.wireOffersUptoRow.mapsOut == Tryz.prog.mapsAmong Tryz.f4.resultTypes.toList)) && ((Rows.wireOffersUptoRow.loops == (Tryz.f4.params.toList++(Rows.OpenSpec.upto Rows.wireOffersSpec).bare.plain.varTypes Tryz.prog).any (Tryz.prog.loopsFrom ·))) && ((Rows.wireOffersUptoRow.wideKeys == (Tryz.f4.params.toList++(Rows.OpenSpec.upto Rows.wireOffersSpec).bare.plain.varTypes Tryz.prog++Tryz.f4.resultTypes.toList).any (Tryz.prog.wideKeysFrom ·))) && ((Rows.OpenSpec.upto Rows.wireOffersSpec).bare.vars.all (Tryz.prog.varReadable ·)) && (Tryz.f4.resultTypes.all (fun t=>Tryz.prog.readableRec t && decide (t<Tryz.prog.types.size))) && ((Rows.wireOffersUptoRow.ifacesOut == Tryz.f4.resultTypes.toList.any (Tryz.prog.ifacesRec ·))) && ((Rows.wireOffersUptoRow.loopsOut == Tryz.f4.resultTypes.toList.any (Tryz.prog.loopsFrom ·))) && ((Rows.wireOffersUptoRow.plainKeys == Tryz.prog.plainKeys)) && (Rows.wireOffersUptoRow.shortTexts.isNone) && (Tryz.prog.stopsHeard) && (Tryz.prog.mayEnter) && ((Rows.wireOffersUptoRow.lifted == Tryz.prog.liftsFinal)) && ((Tryz.prog.make == some Rows.wireOffersUptoRow.make)) && ((Rows.wireOffersUptoRow.kinds == (if Rows.wireOffersUptoRow.domain.isEmpty then [] else Tryz.f4.params.toList.map fun t=>match Tryz.prog.underlying t with | some (.int k)=>some k | _=>none))) && ((Rows.wireOffersUptoRow.pinned == Rows.wireOffersUptoRow.pinnedBy)) && ((Rows.wireOffersUptoRow.veiled == (Tryz.f4.params.toList++(Rows.OpenSpec.upto Rows.wireOffersSpec).bare.plain.varTypes Tryz.prog++Tryz.f4.resultTypes.toList).any (Tryz.prog.veiledRec ·))) && (Rows.wireOffersUptoRow.veiledFits Tryz.prog Tryz.f4.params.toList (Tryz.f4.params.toList++(Rows.OpenSpec.upto Rows.wireOffersSpec).bare.plain.varTypes Tryz.prog++Tryz.f4.resultTypes.toList)))=true:=(AC3 (AC3 (AC3 (AC3 (AC3 (AC3 (AC3 (AC3 (AC3 (AC3 (AC3 (AC3 (AC3 (AC3 (AC3 (AC3 (AC3 (AC3 (AC3 (AC3 (AC3 (AC3 (AC3 (AC3 (AC3 (AC3 (AC3 (AC3 (AC3 (AC3 (AC3 BdF BdN) Bfm) Bfg) BeS) Bfj) BdH) BeP) BeC) Beu) Bb0) Bas) BbF) BbV) BaJ) A96) Bbg) Bbk) Bbw) Bb1) Bcr) Bca) Bbs) Bct) A9K) Bba) Bam) BaR) BbS) Bb4) Bcu) Bb7)
set_option maxRecDepth 100000 in
theorem AX6:joinedFacts Tryz.prog 4 Tryz.f4 (Rows.OpenSpec.upto Rows.wireOffersSpec).bare Rows.wireOffersUptoRow=true:=A5N
set_option maxRecDepth 100000 in
theorem lifted (os:Os) (started:os.Started) (H:Type) (enc:TypeId×Value→H) (F:Stop.Interp) :
  ReturnsInHanded {} Tryz.checked os 4 .any ((Rows.OpenSpec.upto Rows.wireOffersSpec).preRow enc Tryz.prog Tryz.f4 Rows.wireOffersUptoRow.domain false Rows.wireOffersUptoRow.laid) (((Rows.OpenSpec.upto Rows.wireOffersSpec).at F).post enc Tryz.prog Tryz.f4 false true false false):=by
 obtain ⟨places,hx⟩:=reads os enc
 refine returnsInHanded_of_row (C:=Tryz.checked) (s:=Rows.OpenSpec.upto Rows.wireOffersSpec) own started (by kernel_rfl) Tryz.func4
  (witness_row_at (enc:=enc) (C:=Tryz.checked) false (ASG os) #[.agg #[.string ⟨#[]⟩,.slice none 0 0],.slice none 0 0] rfl (by kernel_rfl) (by kernel_rfl) (by kernel_rfl)
   (OpenSpec.preRow_of_cond 8 hx (by kernel_rfl) (fun k hk=>by cases hk; kernel_rfl) (by kernel_rfl) (AUN os _))) ?_
 intro W base args ds gs before hval0 hW hcnd hcond hsz0 hL hsh _
 obtain ⟨t0,a0,t1,a1,m,hG⟩:=AWU hL hsh
 letI:AAE:=giM t0 a0 t1 a1 m
 haveI:AA4:=AO5 t0 a0 t1 a1 m
 haveI:ABP:=AHL t0 a0 t1 a1 m
 haveI:ABO:=AHN t0 a0 t1 a1 m
 haveI:AA3:=AFh t0 a0 t1 a1 m
 haveI:AAz:=AO3 t0 a0 t1 a1 m
 haveI:AAx:=ANp t0 a0 t1 a1 m
 haveI:ADH:=⟨m,by kernel_rfl⟩
 have hsz:(DataW.weightsEach Tryz.prog (Tryz.f4.params.toList++Rows.wireOffersSpec.plain.varTypes Tryz.prog) (ds++gs)).all (· ≤ reachBytes)=true:=hsz0
 have hval:∀ (j:Nat) t v,Tryz.f4.params[j]?=some t→args[j]?=some v→Value.okWide Tryz.prog W .any base t v:=hval0
 have hW':=hW
 obtain ⟨p,q,hA0,hV,rfl,hfz,hnd⟩:=hW
 have hA:DataW.TrodAll enc Tryz.prog W 0 (fun _=>true) true Tryz.f4.params.toList args.toList ds p:=hA0
 obtain ⟨rfl,rfl⟩:=trodVars_none hV
 have hsz2:(DataW.weightsEach Tryz.prog Tryz.f4.params.toList ds).all (· ≤ reachBytes)=true:=by
  have e:Tryz.f4.params.toList++Rows.wireOffersSpec.plain.varTypes Tryz.prog=Tryz.f4.params.toList:=by simp [ChangeSpec.plain,Rows.wireOffersSpec]; rfl
  rw [e,List.append_nil] at hsz; exact hsz
 have hA':=hA
 have hps:(Tryz.f4.params.toList.all fun t=>Tryz.prog.readableRec t && decide (t<Tryz.prog.types.size))=true:=by kernel_rfl
 have hv2:∀ (j:Nat) t v,Tryz.f4.params.toList[j]?=some t→args.toList[j]?=some v→∃ base,Value.okWide Tryz.prog W .any base t v:=fun j t v h1 h2=>⟨base,hval j t v (by rw [←Array.getElem?_toList]; exact h1) (by rw [←Array.getElem?_toList]; exact h2)⟩
 rw [Tryz.params4] at hA hsz2 hv2
 obtain ⟨dsE,hdsE⟩:∃ x,x=ds:=⟨_,rfl⟩
 refine (Ba4 (f:=4) (AMT (AWz (R:=1048576)) (AVN Tryz.underlying39) (fun _=>rfl) (AMT (AV9 Tryz.underlying23 Tryz.underlying5 (by kernel_rfl) (by kernel_rfl)) (AWm Tryz.underlying23) (fun _=>rfl) AVl)) (fun a h=>A3r a.1 a.2.1 (Nat.le_trans h.1.1 (by decide)) h.1.2.1 (fun r hr=>⟨Nat.le_trans (h.1.2.2 r hr).1 (by decide),(h.1.2.2 r hr).2⟩) h.2.1) hA hv2 hsz2 (A5u (hcond _ rfl)) (hG)).mono fun e W' ⟨he,bel⟩ => ?_
 subst he
 have hB:=APC A8r.1 bel hps hA'
 have hAo:=hA
 obtain ⟨v0,vs0,d0,ds0,p0,q0,ha0,hd0,hp0,h0,r0⟩:=trodAll_cons hAo
 obtain ⟨v1,vs1,d1,ds1,p1,q1,ha1,hd1,hp1,h1,r1⟩:=trodAll_cons r0
 obtain ⟨hz1,hz2,hz3⟩:=trodAll_nil r1
 have hd:ds=[d0,d1]:=by rw [hd0,hd1,hz2]
 subst hd
 exact ⟨_,rfl,_,_,_,[],_,[],hW',trodAll_mk1 (shut_bool Tryz.underlying4 _),hB,rfl,bel.frame _,fun h=>by cases h⟩
theorem over:Rows.wireOffersUptoRow.holds Tryz.pinned (Rows.OpenSpec.upto Rows.wireOffersSpec) :=
 OpenClaim.holds_of_cond 4 Tryz.f4 rfl rfl rfl rfl rfl rfl rfl ⟨rfl,rfl,rfl,rfl,rfl⟩ rfl rfl rfl rfl rfl (by kernel_rfl) Tryz.func4 AX6
  (of_decide_eq_true (by kernel_rfl)) (by unfold Func.isWrapper; first | (rw [if_pos (by decide +kernel)]; kernel_rfl) | (rw [if_neg (by decide +kernel)]; exact ⟨rfl,rfl⟩))
  (fun os started H enc _ F=>by rw [OpenClaim.pre_eq_preRow]; exact lifted os started H enc F)
theorem stands:(Tryz.f4.params.toList.all fun t => !Tryz.prog.wantsStandIn t)=true:=by kernel_rfl
theorem proved:Rows.WireOffersUptoCardSaid :=
 Claim7.holds_tied_plain_at .later [] [.data,.data,.data,.data,.handle,.sentinel,.sentinel,.pinned] true (true, "1cd508813a7ab9180b6b047ca0db803201969f14fae151725a7c55c995d18096") true
  over (fun _ h=>by cases h) (by kernel_rfl) (fun _ h=>by cases h) wireOffersUpto_row_tie rfl ⟨rfl,rfl⟩ (by kernel_rfl) rfl
  (fun f fn hf hfn=>by
   obtain rfl:f=4:=(Option.some.inj ((show Tryz.prog.funcNamed "gitlike/gitlikelaw12.WireOffers" = some 4 by kernel_rfl).symm.trans hf)).symm
   obtain rfl:fn=Tryz.f4:=(Option.some.inj (Tryz.func4.symm.trans hfn)).symm
   exact ⟨by kernel_rfl,fun j t ht=>by
    rw [←Array.getElem?_toList] at ht
    have:=List.all_eq_true.1 stands t (List.mem_of_getElem? ht)
    exact (show Tryz.prog.wantsStandIn t=false by simpa using this)⟩)
  (by kernel_rfl)
#print axioms proved
end Go.Proofs.YtnikbdnebdmmiaaGreatDoor.wireOffers
