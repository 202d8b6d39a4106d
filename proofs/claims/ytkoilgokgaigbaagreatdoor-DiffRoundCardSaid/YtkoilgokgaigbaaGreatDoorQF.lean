/- What the proof of DiffRoundCard stands on (texts merged; names shortened by a program): part 6. -/
import Derived.Test.YtkoilgokgaigbaaGreatDoorQE
import Derived.Test.YtkoilgokgaigbaaGreatDoorProg
import Derived.Test.YtkoilgokgaigbaaGreatDoorQD
import Derived.WalkKit
import Derived.LaidEql
import Derived.Stop.Asserts
import Derived.RowKitTokens
import Derived.KernelRfl
import Derived.Lib.BytesEntry
import Derived.Shelf.Bytes.SlIndexAt
import Derived.Shelf.Strings.OnBuilder
import Derived.Lib.ItoaNum
set_option linter.defProp false
set_option linter.unusedSectionVars false
set_option linter.unusedSimpArgs false
set_option linter.unusedVariables false
namespace Go.Proofs.YtkoilgokgaigbaaGreatDoor
section
open Go.RowKit
variable [A8]
def OX (w s:List UInt8):List UInt8:=Lib.trimPrefix s w
theorem SC (w s:List UInt8):(OX w s).length≤s.length:=by
 unfold OX Lib.trimPrefix
 split<;>simp
theorem Ade {s w:List UInt8} {β:Bool} {id v:Nat} {H:List Ob} (ho:H[id]?=some (.obj v (.agg [ts s,tb β]))) {K:TV→List Ob→Prop}
  (hK:K (.tup []) (H.set id (.obj v (.agg [ts (OX w s),tb (β || !Lib.hasPrefix s w)])))):Aq Tryz.prog 40 [.op id v [],ts w] H K:=by
 refine Ri (by simp) ?_
 have hid:id<H.length:=(List.getElem?_eq_some_iff.1 ho).1
 have hcp:=Zb s w
 unfold OX at hK
 generalize Lib.trimPrefix s w=t at *
 generalize Lib.hasPrefix s w=b at *
 simp -dsimp (disch:=first | assumption | omega | (simp only [Ah];try omega)) only [↓Ai,Ad,Ag,Af,eq_self,Nat.reduceEqDiff,↓reduceIte,Nat.reduceAdd,reduceCtorEq,↓P9,ho]
 refine hcp.calls rfl fun x hx => ?_
 subst hx
 cases β<;>cases b
 all_goals
  simp -dsimp (disch:=first | assumption | omega | (simp only [Ah];try omega)) only [↓Ai,Ad,Ag,Af,eq_self,Nat.reduceEqDiff,↓reduceIte,Nat.reduceAdd,reduceCtorEq,↓KF,↓P6,ho]
  simpa using hK
variable [Aj] [AU] [A7]
theorem AaZ {s:List UInt8} (ha:s.all Bo=true):0≤RD s∧RD s≤9223372036854775807:=by
 unfold RD
 have h45:∀ b∈s,b.toNat≠45:=fun b hb e=>by
  have:=List.all_eq_true.1 ha b hb
  unfold Bo at this
  simp at this
  omega
 split
 ·rename_i v h
  have hb:=Lib.atoiAll_bounds h
  refine ⟨?_,hb.2⟩
  unfold Lib.atoiAll at h
  split at h
  ·cases h
  ·rename_i c r
   have hc:=h45 c (by simp)
   simp only [hc,false_and,if_false] at h
   split at h
   ·cases h
   ·cases h
   ·split at h
    ·cases h
    ·cases h; omega
 ·omega
 ·unfold Lib.atoiSat
  rw [if_neg]
  ·omega
  ·intro h
   cases s with
   | nil=>simp at h
   | cons c r=>exact h45 c (by simp) (by simpa using h)
theorem AfI {Ss:List Nat} {e:Env} {H:List Ob}:RH Ss e H H:=fun t ht id hg=>rfl
theorem AdH {s:List UInt8} (hs:s.length≤1000000) {β:Bool} {id v:Nat} {H:List Ob} (ho:H[id]?=some (.obj v (.agg [ts s,tb β]))) {K:TV→List Ob→Prop}
  (hK:∀ z:Int,(QT (s.takeWhile Bo)→z=(KL 0 (s.takeWhile Bo):Int))→0≤z→z≤9223372036854775807→K (i64 z) (H.set id (.obj v (.agg [ts (s.dropWhile Bo),tb (β || !decide (QT (s.takeWhile Bo)))])))):Aq Tryz.prog 54 [.op id v []] H K:=by
 refine NR (by simp) ?_
 have hid:id<H.length:=(List.getElem?_eq_some_iff.1 ho).1
 have hTL:=AhB s hs
 have hall:=Alj s
 obtain ⟨d,r,rfl,hd,hr⟩:∃ d r,s=d++r∧s.takeWhile Bo=d∧s.dropWhile Bo=r:=⟨_,_,List.takeWhile_append_dropWhile.symm,rfl,rfl⟩
 rw [hd] at hK hall
 rw [hr] at hK hTL
 clear hd hr
 have hsl:(d++r).length=d.length+r.length:=List.length_append ..
 have htk:(d++r).take d.length=d:=List.take_left ..
 have hdp:(d++r).drop d.length=r:=List.drop_left ..
 have hb:=AaZ hall
 simp -dsimp (disch:=first | assumption | omega | (simp only [Ah];try omega)) only [↓Ai,Ad,Ag,Af,eq_self,Nat.reduceMod,↓reduceIte,reduceCtorEq,↓Nl,↓JC,ho]
 refine Aq.callsP (hTL.calls rfl fun x hx=>⟨?_,AfI⟩)
 subst hx
 simp -dsimp (disch:=first | assumption | omega | (simp only [Ah];try omega)) only [↓Ai,Ad,Ag,Af,eq_self,Nat.reduceEqDiff,↓reduceIte,reduceCtorEq,↓Jt,↓JB,ho,UU,hsl,htk,hdp]
 have ho2:(H.set id (.obj v (.agg [ts r,tb β])))[id]?=some (.obj v (.agg [ts r,tb β])):=by rw [List.getElem?_set,if_pos rfl,if_pos hid]
 have hset:∀ x:Ob,(H.set id (.obj v (.agg [ts r,tb β]))).set id x=H.set id x:=fun x=>List.set_set ..
 have hK2:=hK (RD d)
 clear hK
 generalize H.set id (.obj v (.agg [ts r,tb β]))=H1 at *
 simp -dsimp (disch:=first | assumption | omega | (simp only [Ah];try omega)) only [↓Ai,Ad,Ag,Af,eq_self,Nat.reduceEqDiff,↓reduceIte,reduceCtorEq,↓JA]
 refine (AoK d (by omega)).calls rfl fun x hx => ?_
 subst hx
 by_cases h0:d=[]
 ·subst h0
  have e:TZ [] = .ifc 156 .any:=rfl
  have hn:¬ QT []:=fun h=>h.1 rfl
  have hK3:=hK2 (fun h=>absurd h hn) hb.1 hb.2
  simp only [hn,decide_false,Bool.not_false,Bool.or_true] at hK3
  cases β<;>simp -dsimp (disch:=first | assumption | omega | (simp only [Ah];try omega)) only [↓Ai,Ad,Ag,Af,eq_self,Nat.reduceEqDiff,↓reduceIte,Nat.reduceAdd,reduceCtorEq,e,ho2,hset,↓BP,↓BL]
  all_goals exact hK3
 by_cases h9:d.length≤9
 ·have ea:=Ait hall h0 (by omega)
  have e1:TZ d = .val .nilIface:=by unfold TZ; rw [ea]
  have e2:RD d=(KL 0 d:Int):=by unfold RD; rw [ea]
  have hn9:¬ 9<d.length:=by omega
  have hv:=Alo h9 hall
  have hK3:=hK2 (fun _=>e2) hb.1 hb.2
  have hci:=AhL hall h0 h9
  rw [e2] at hK3
  have hit:=AoC (KL 0 d:Int) (by omega) (by omega)
  rw [Lib.itoa_nonneg] at hit
  cases β
  ·simp -dsimp (disch:=first | assumption | omega | (simp only [Ah];try omega)) only [↓Ai,Ad,Ag,Af,eq_self,Nat.reduceEqDiff,↓reduceIte,Nat.reduceAdd,reduceCtorEq,e1,e2,hn9,ho2,↓BP]
   refine hit.calls rfl fun x hx => ?_
   subst hx
   by_cases hc:QT d
   ·have hc2:=hci.1 hc
    rw [hc2]
    simp only [hc,decide_true,Bool.not_true,Bool.or_false] at hK3
    simp -dsimp (disch:=first | assumption | omega | (simp only [Ah];try omega)) only [↓Ai,Ad,Ag,Af,eq_self,Nat.reduceEqDiff,↓reduceIte,Nat.reduceAdd,reduceCtorEq,ho2,hset,↓BL]
    exact hK3
   ·have hc2:¬ Lib.decDigits (KL 0 d)=d:=fun h=>hc (hci.2 h)
    simp only [hc,decide_false,Bool.not_false,Bool.or_true] at hK3
    simp -dsimp (disch:=first | assumption | omega | (simp only [Ah];try omega)) only [↓Ai,Ad,Ag,Af,eq_self,Nat.reduceEqDiff,↓reduceIte,Nat.reduceAdd,reduceCtorEq,hc2,ho2,hset,↓BL]
    exact hK3
  ·simp only [Bool.true_or] at hK3
   simp -dsimp (disch:=first | assumption | omega | (simp only [Ah];try omega)) only [↓Ai,Ad,Ag,Af,eq_self,Nat.reduceEqDiff,↓reduceIte,Nat.reduceAdd,reduceCtorEq,e1,e2,ho2,hset,↓BP,↓BL]
   exact hK3
 ·have hn:¬ QT d:=fun h=>h9 h.2.1
  have hK3:=hK2 (fun h=>absurd h hn) hb.1 hb.2
  simp only [hn,decide_false,Bool.not_false,Bool.or_true] at hK3
  have hn9:9<d.length:=by omega
  unfold TZ
  cases ea:Lib.atoiAll d
  all_goals
   cases β<;>simp -dsimp (disch:=first | assumption | omega | (simp only [Ah];try omega)) only [↓Ai,Ad,Ag,Af,eq_self,Nat.reduceEqDiff,↓reduceIte,Nat.reduceAdd,reduceCtorEq,hn9,ho2,hset,↓BP,↓BL]
   all_goals exact hK3
theorem gsE {H:List Ob} {id:Nat} {x:Ob} (h:id<H.length):(H.set id x)[id]?=some x:=by rw [List.getElem?_set,if_pos rfl,if_pos h]
theorem Alm (s:List UInt8):(s.dropWhile Bo).length≤s.length:=by
 have:=congrArg List.length (List.takeWhile_append_dropWhile (p:=Bo) (l:=s))
 rw [List.length_append] at this
 omega
theorem Aao {w s r:List UInt8} (h:Ig w s=some r):Lib.hasPrefix s w=true∧OX w s=r:=by
 unfold Ig at h
 split at h
 ·rename_i hp
  cases h
  unfold OX Lib.trimPrefix Lib.hasPrefix
  exact ⟨hp,by rw [if_pos hp]⟩
 ·cases h
theorem Aal {w s:List UInt8} (h:Ig w s=none):Lib.hasPrefix s w=false:=by
 unfold Ig at h
 split at h
 ·cases h
 ·rename_i hp; unfold Lib.hasPrefix; exact Bool.eq_false_iff.2 hp
theorem Ahu {s:List UInt8} (hs:s.length≤1000000) {β:Bool} {id v:Nat} {H:List Ob} (ho:H[id]?=some (.obj v (.agg [ts s,tb β]))) {K:TV→List Ob→Prop}
  (hK:∀ (a n:Int) (r:List UInt8) (β':Bool),β'=(β || (Yb s).isNone)→(∀ A N r0,Yb s=some (A,N,r0)→a=(A:Int)∧n=(N:Int)∧r=r0) → -1≤a→a≤9223372036854775807→0≤n→n≤9223372036854775807→r.length≤s.length →
   K (.tup [i64 a,i64 n]) (H.set id (.obj v (.agg [ts r,tb β'])))):Aq Tryz.prog 41 [.op id v []] H K:=by
 refine Qg (by simp) ?_
 have hid:id<H.length:=(List.getElem?_eq_some_iff.1 ho).1
 have hidS:∀ x:Ob,id<(H.set id x).length:=fun x=>by rw [List.length_set]; exact hid
 simp -dsimp (disch:=first | assumption | omega | (simp only [Ah];try omega)) only [↓Ai,Ad,Ag,Af,eq_self,↓reduceIte,reduceCtorEq,↓Pn,↓JQ]
 refine Rh (AdH hs ho fun z hz hz0 hz1 => ?_)
 have hd1:=Alm s
 have c1:QT (s.takeWhile Bo)→Ae2 s=some (KL 0 (s.takeWhile Bo),s.dropWhile Bo):=fun h=>by unfold Ae2; rw [if_pos h]
 have c1n:¬ QT (s.takeWhile Bo)→Yb s=none:=fun h=>by unfold Yb Ae2; rw [if_neg h]
 generalize s.dropWhile Bo=s1 at *
 generalize hβ1:(β || !decide (QT (s.takeWhile Bo)))=β1
 simp -dsimp (disch:=first | assumption | omega | (simp only [Ah];try omega)) only [↓Ai,Ad,Ag,Af,eq_self,↓reduceIte,reduceCtorEq,↓KA]
 refine Rh (Ade (gsE hid) ?_)
 rw [List.set_set]
 have hd2:=SC [44] s1
 have c2:∀ r,Ig [44] s1=some r→Lib.hasPrefix s1 [44]=true∧OX [44] s1=r:=fun r=>Aao
 have c2n:Ig [44] s1=none→Lib.hasPrefix s1 [44]=false:=Aal
 generalize hβ2:(β1 || !Lib.hasPrefix s1 [44])=β2
 generalize hs2:OX [44] s1=s2 at *
 simp -dsimp (disch:=first | assumption | omega | (simp only [Ah];try omega)) only [↓Ai,Ad,Ag,Af,eq_self,Nat.reduceEqDiff,↓reduceIte,reduceCtorEq,↓JU]
 refine Rh (AdH (by omega) (gsE hid) fun y hy hy0 hy1 => ?_)
 rw [List.set_set]
 have hd3:=Alm s2
 generalize hβ3:(β2 || !decide (QT (s2.takeWhile Bo)))=β3
 have fin:∀ a:Int,a=(if 0<y then z - 1 else z)→K (.tup [i64 a,i64 y]) (H.set id (.obj v (.agg [ts (s2.dropWhile Bo),tb (β3 || decide (a<0))]))):=fun a ha=>by
  have key:(Yb s=none→(β3 || decide (a<0))=true)∧(∀ A N r0,Yb s=some (A,N,r0)→(β3 || decide (a<0))=β∧a=(A:Int)∧y=(N:Int)∧s2.dropWhile Bo=r0):=by
   by_cases k1:QT (s.takeWhile Bo)
   case neg =>
    have e1:β3=true:=by rw [←hβ3,←hβ2,←hβ1]; simp [k1]
    exact ⟨fun _=>by rw [e1]; rfl,fun A N r0 h=>by rw [c1n k1] at h; cases h⟩
   have e1:β1=β:=by rw [←hβ1]; simp [k1]
   have f1:=c1 k1
   cases k2:Ig [44] s1 with
   | none =>
    have e2:β3=true:=by rw [←hβ3,←hβ2,c2n k2]; simp
    have e3:Yb s=none:=by unfold Yb; rw [f1]; simp only; rw [k2]
    exact ⟨fun _=>by rw [e2]; rfl,fun A N r0 h=>by rw [e3] at h; cases h⟩
   | some r =>
    obtain ⟨p1,p2⟩:=c2 r k2
    have e2:β2=β:=by rw [←hβ2,p1,e1]; simp
    subst p2
    by_cases k3:QT (s2.takeWhile Bo)
    case neg =>
     have e4:β3=true:=by rw [←hβ3]; simp [k3]
     have e3:Yb s=none:=by unfold Yb; rw [f1]; simp only; rw [k2]; simp only; unfold Ae2; rw [if_neg k3]
     exact ⟨fun _=>by rw [e4]; rfl,fun A N r0 h=>by rw [e3] at h; cases h⟩
    have e4:β3=β:=by rw [←hβ3,e2]; simp [k3]
    have f3:Ae2 s2=some (KL 0 (s2.takeWhile Bo),s2.dropWhile Bo):=by unfold Ae2; rw [if_pos k3]
    have y1:=hy k3
    have eb:Yb s=if 0<KL 0 (s2.takeWhile Bo) then (if KL 0 (s.takeWhile Bo)=0 then none else some (KL 0 (s.takeWhile Bo) - 1,KL 0 (s2.takeWhile Bo),s2.dropWhile Bo)) else some (KL 0 (s.takeWhile Bo),KL 0 (s2.takeWhile Bo),s2.dropWhile Bo):=by
     unfold Yb
     rw [f1]; simp only
     rw [k2]; simp only
     rw [f3]
    have zz:=hz k1
    rw [eb,e4]
    generalize KL 0 (s2.takeWhile Bo)=u at *
    generalize KL 0 (s.takeWhile Bo)=t at *
    by_cases hu:0<u
    ·rw [if_pos hu]
     rw [if_pos (by omega)] at ha
     by_cases ht:t=0
     ·rw [if_pos ht]
      have:a<0:=by omega
      exact ⟨fun _=>by simp [this],fun A N r0 h=>by cases h⟩
     ·rw [if_neg ht]
      have:¬ a<0:=by omega
      refine ⟨fun h=>(by cases h),fun A N r0 h => ?_⟩
      cases h
      exact ⟨by simp [this],by omega,y1,rfl⟩
    ·rw [if_neg hu]
     rw [if_neg (by omega)] at ha
     have:¬ a<0:=by omega
     refine ⟨fun h=>(by cases h),fun A N r0 h => ?_⟩
     cases h
     exact ⟨by simp [this],by omega,y1,rfl⟩
  refine hK a y _ _ ?_ (fun A N r0 h=>(key.2 A N r0 h).2) ?_ ?_ hy0 hy1 (by omega)
  ·cases hb:Yb s with
   | none=>rw [key.1 hb]; simp
   | some q=>obtain ⟨A,N,r0⟩:=q; rw [(key.2 A N r0 hb).1]; simp
  ·split at ha<;>omega
  ·split at ha<;>omega
 generalize s2.dropWhile Bo=s3 at *
 by_cases h0:0<y
 ·have f:=fin (z - 1) (by rw [if_pos h0])
  cases β3<;>simp -dsimp (disch:=first | assumption | omega | (simp only [Ah];try omega)) only [↓Ai,Ad,Ag,Af,eq_self,Nat.reduceEqDiff,↓reduceIte,Nat.reduceAdd,reduceCtorEq,gsE hid,↓Ew,↓Eu,↓FY]
  all_goals simpa using f
 ·have f:=fin z (by rw [if_neg h0])
  cases β3<;>simp -dsimp (disch:=first | assumption | omega | (simp only [Ah];try omega)) only [↓Ai,Ad,Ag,Af,eq_self,Nat.reduceEqDiff,↓reduceIte,Nat.reduceAdd,reduceCtorEq,gsE hid,↓Ew,↓Eu,↓FY]
  all_goals simpa using f
end
section
open Go.RowKit
variable [A8]
def ez (p:EZ):TV := .agg [i64 p.1,ts p.2]
theorem Aas {p:EZ}:ez p = .agg [i64 p.1,ts p.2]:=by unfold ez; rfl
theorem TK (l:List EZ) (a b:Int) (hl:l.length≤1000000):CE Tryz.prog 28 [.agg [i64 a,i64 b,.sl 2 (l.map ez)]] (fun x=>x = .tup [i64 (zN l:Int),i64 (zM l:Int)]):=by
 refine Aq.toPureV (Iw (by simp) ?_)
 simp -dsimp (disch:=first | assumption | omega) only [↓Ai,Ad,Ag,Af,eq_self,Nat.reduceEqDiff,↓reduceIte,Nat.reduceAdd,↓AZ]
 refine D6 (fun q e H=>∃ i:Nat,q=l.length - i∧i≤l.length∧e=[(2,i64 (zN (l.take i):Int)),(3,i64 (zM (l.take i):Int)),(7,.sl 2 (l.map ez)),(8,i64 (l.length:Int)),(9,i64 (i:Int))]∧H=[.obj 0 (.agg [i64 a,i64 b,.sl 2 (l.map ez)])]) l.length ?_ ?_
 ·exact ⟨0,by simp,by simp,by rw [List.take_zero]; rfl,rfl⟩
 ·rintro q e H ⟨i,rfl,hi,rfl,rfl⟩
  have b1:=Am8 (l.take i)
  have b2:=Amz (l.take i)
  have b3:(l.take i).length≤l.length:=by simp; omega
  by_cases h:i<l.length
  ·obtain ⟨x,hx⟩:∃ x,l[i]?=some x:=⟨_,List.getElem?_eq_getElem h⟩
   have hs:l.take (i+1)=l.take i++[x]:=by
    obtain ⟨_,rfl⟩:=List.getElem?_eq_some_iff.1 hx
    exact List.take_succ_eq_append_getElem h
   have c1:=AhJ (l.take i) [x]
   have c2:=AlE (l.take i) [x]
   rw [←hs,Alt] at c1
   rw [←hs,Apb] at c2
   by_cases k2:x.1=2
   ·have k1:¬ x.1=1:=by omega
    rw [if_pos k2] at c1; rw [if_neg k1] at c2
    simp -dsimp (disch:=first | assumption | omega) only [↓Ai,Ad,Ag,Af,eq_self,Nat.reduceEqDiff,↓reduceIte,Nat.reduceAdd,↓AZ,hx,Aas,k2]
    exact CJ (l.length - (i+1)) 1 (by omega) (by simp) rfl rfl ⟨i+1,rfl,by omega,by rw [c1,c2]; rfl,rfl⟩
   ·rw [if_neg k2] at c1
    by_cases k1:x.1=1
    ·rw [if_pos k1] at c2
     simp -dsimp (disch:=first | assumption | omega) only [↓Ai,Ad,Ag,Af,eq_self,Nat.reduceEqDiff,↓reduceIte,Nat.reduceAdd,↓AZ,hx,Aas,k1]
     exact CJ (l.length - (i+1)) 1 (by omega) (by simp) rfl rfl ⟨i+1,rfl,by omega,by rw [c1,c2]; rfl,rfl⟩
    ·rw [if_neg k1] at c2
     simp -dsimp (disch:=first | assumption | omega) only [↓Ai,Ad,Ag,Af,eq_self,Nat.reduceEqDiff,↓reduceIte,Nat.reduceAdd,↓AZ,hx,Aas]
     exact CJ (l.length - (i+1)) 1 (by omega) (by simp) rfl rfl ⟨i+1,rfl,by omega,by rw [c1,c2]; rfl,rfl⟩
  ·obtain rfl:i=l.length:=by omega
   rw [List.take_length]
   simp -dsimp (disch:=first | assumption | omega) only [↓Ai,Ad,Ag,Af,eq_self,Nat.reduceEqDiff,↓reduceIte,↓AZ]
def UH (c:UInt8):Int:=(Yg c).getD (-1)
variable [AL]
theorem Agk {e:Env}:(Opd.g 1).ev e = .fp (.arr 3 1 [.val (.string (str [32])),.val (.string (str [45])),.val (.string (str [43]))]):=by
 rw [A2U,AL.k]; rfl
theorem AmD (c:UInt8):CE Tryz.prog 56 [.sl 1 [ts [32],ts [45],ts [43]],ts [c]] (fun x=>x=i64 (UH c)):=by
 refine Aq.toPureV (G7 (by simp) ?_)
 simp -dsimp (disch:=first | assumption | omega) only [↓Ai,Ad,Ag,Af,eq_self,Nat.reduceEqDiff,↓reduceIte,Nat.reduceAdd,reduceCtorEq,↓AA]
 refine D6 (fun q e H=>∃ i:Nat,q=3 - i∧i≤3∧(0<i→c≠32)∧(1<i→c≠45)∧(2<i→c≠43)∧e=[(0,.sl 1 [ts [32],ts [45],ts [43]]),(1,ts [c]),(7,i64 ((3:Nat):Int)),(8,i64 (i:Int))]∧H=[]) 3 ?_ ?_
 ·exact ⟨0,rfl,by omega,by omega,by omega,by omega,rfl,rfl⟩
 ·rintro q e H ⟨i,rfl,hi,h1,h2,h3,rfl,rfl⟩
  unfold UH Yg
  have hi4:i=0∨i=1∨i=2∨i=3:=by omega
  rcases hi4 with rfl | rfl | rfl | rfl
  ·clear h1 h2 h3
   by_cases hc:c=32
   ·subst hc
    simp -dsimp (disch:=first | assumption | omega) only [↓Ai,Ad,Ag,Af,eq_self,Nat.reduceLT,Nat.reduceEqDiff,↓reduceIte,reduceCtorEq,↓AA]
    rfl
   ·have hc':¬ [c]=[(32:UInt8)]:=by simp [hc]
    simp -dsimp (disch:=first | assumption | omega) only [↓Ai,Ad,Ag,Af,eq_self,Nat.reduceLT,Nat.reduceEqDiff,↓reduceIte,reduceCtorEq,↓AA,hc']
    exact CJ 2 0 (by omega) (by simp) rfl rfl ⟨1,rfl,by omega,fun _=>hc,by omega,by omega,rfl,rfl⟩
  ·have e1:=h1 (by omega)
   by_cases hc:c=45
   ·subst hc
    simp -dsimp (disch:=first | assumption | omega) only [↓Ai,Ad,Ag,Af,eq_self,Nat.reduceLT,Nat.reduceEqDiff,↓reduceIte,reduceCtorEq,↓AA]
    rfl
   ·have hc':¬ [c]=[(45:UInt8)]:=by simp [hc]
    simp -dsimp (disch:=first | assumption | omega) only [↓Ai,Ad,Ag,Af,eq_self,Nat.reduceLT,Nat.reduceEqDiff,Nat.reduceSub,↓reduceIte,Nat.reduceAdd,reduceCtorEq,↓AA,hc']
    exact CJ 1 0 (by omega) (by simp) rfl rfl ⟨2,rfl,by omega,fun _=>e1,fun _=>hc,by omega,rfl,rfl⟩
  ·have e1:=h1 (by omega)
   have e2:=h2 (by omega)
   by_cases hc:c=43
   ·subst hc
    simp -dsimp (disch:=first | assumption | omega) only [↓Ai,Ad,Ag,Af,eq_self,Nat.reduceLT,Nat.reduceEqDiff,↓reduceIte,reduceCtorEq,↓AA]
    rfl
   ·have hc':¬ [c]=[(43:UInt8)]:=by simp [hc]
    simp -dsimp (disch:=first | assumption | omega) only [↓Ai,Ad,Ag,Af,eq_self,Nat.reduceLT,Nat.reduceEqDiff,Nat.reduceSub,↓reduceIte,Nat.reduceAdd,reduceCtorEq,↓AA,hc']
    exact CJ 0 0 (by omega) (by simp) rfl rfl ⟨3,rfl,by omega,fun _=>e1,fun _=>e2,fun _=>hc,rfl,rfl⟩
  ·have e1:=h1 (by omega)
   have e2:=h2 (by omega)
   have e3:=h3 (by omega)
   simp -dsimp (disch:=first | assumption | omega) only [↓Ai,Ad,Ag,Af,eq_self,Nat.reduceLT,Nat.reduceEqDiff,↓reduceIte,reduceCtorEq,↓AA]
theorem Xy (c:UInt8):∀ l:List UInt8,Lib.index l [c]=Lib.indexByte l c
 | []=>rfl
 | b::l=>by
  rw [Lib.index,Lib.indexByte,Xy c l]
  by_cases e:b=c
  ·subst e; simp
  ·have h1:([c].isPrefixOf (b::l))=false:=by simp [List.isPrefixOf,Ne.symm e]
   have h2:(b == c)=false:=by simpa using e
   rw [h1,h2]
theorem Ai2 (s:List UInt8):Lib.cut s [10]=(match Vo 10 s with | some i=>(s.take i,s.drop (i+1),true) | none=>(s,[],false)):=by
 unfold Lib.cut
 rw [Xy,Aah]
 cases Vo 10 s with
 | none=>simp
 | some i=>simp
variable [Ih]
theorem AqJ {s:List UInt8} (hs:s.length≤1000000) {β:Bool} {id v:Nat} {H:List Ob} (ho:H[id]?=some (.obj v (.agg [ts s,tb β]))) {K:TV→List Ob→Prop}
  (hK:∀ (e:EZ) (r:List UInt8) (β':Bool),β'=(β || (lnF s).isNone)→(∀ e0 r0,lnF s=some (e0,r0)→e=e0∧r=r0) → -1≤e.1→e.1≤2→e.2.length≤s.length→r.length≤s.length →
   K (ez e) (H.set id (.obj v (.agg [ts r,tb β']))++[.obj 0 (ez e)])):Aq Tryz.prog 42 [.op id v []] H K:=by
 refine QY (by simp) ?_
 have hid:id<H.length:=(List.getElem?_eq_some_iff.1 ho).1
 simp -dsimp (disch:=first | assumption | omega | (simp only [Ah];try omega)) only [↓Ai,Ad,Ag,Af,eq_self,↓reduceIte,reduceCtorEq,↓Qd,↓LG,ho]
 refine (AsG s [10] hs).calls rfl fun x hx => ?_
 subst hx
 rw [Ai2]
 cases hc:Vo 10 s with
 | none =>
  have el:lnF s=none:=by unfold lnF; rw [hc]
  have f:=hK (0,[]) s true (by rw [el]; simp) (fun e0 r0 h=>by rw [el] at h; cases h) (by simp) (by simp) (by simp) (Nat.le_refl _)
  simp only
  simp -dsimp (disch:=first | assumption | omega | (simp only [Ah];try omega)) only [↓Ai,Ad,Ag,Af,eq_self,Nat.reduceEqDiff,↓reduceIte,Nat.reduceAdd,reduceCtorEq,↓Dw,ho,↓AX]
  exact f
 | some i =>
  obtain ⟨hi,_,_⟩:=U6 hc
  simp only
  cases ht:s.take i with
  | nil =>
   have el:lnF s=none:=by unfold lnF; rw [hc]; simp only; rw [ht]
   have f:=hK (0,[]) s true (by rw [el]; simp) (fun e0 r0 h=>by rw [el] at h; cases h) (by simp) (by simp) (by simp) (Nat.le_refl _)
   simp -dsimp (disch:=first | assumption | omega | (simp only [Ah];try omega)) only [↓Ai,Ad,Ag,Af,eq_self,Nat.reduceEqDiff,↓reduceIte,Nat.reduceAdd,reduceCtorEq,↓Dw,ho,↓AX]
   exact f
  | cons c t =>
   have htl:t.length+1=i:=by
    have:=congrArg List.length ht
    rw [List.length_take,List.length_cons] at this
    omega
   have hne:¬ (c::t=[]):=by simp
   have hln:=Ag3 t (s.drop (i+1))
   have hdl:(s.drop (i+1)).length=s.length - (i+1):=by simp
   have el:lnF s=match Yg c with
    | none=>none
    | some k=>if (lnE t (s.drop (i+1))).1=[] then none else some ((k,(lnE t (s.drop (i+1))).1),(lnE t (s.drop (i+1))).2):=by unfold lnF; rw [hc]; simp only; rw [ht]; rfl
   have hsig:=AmD c
   have hkz : -1≤UH c∧UH c≤2:=by
    unfold UH Yg
    split
    ·simp
    split
    ·simp
    split
    ·simp
    ·simp
   have f:=fun β' h1 h2=>hK (UH c,(lnE t (s.drop (i+1))).1) (lnE t (s.drop (i+1))).2 β' h1 h2 hkz.1 hkz.2 (by simp only; omega) (by omega)
   rw [el] at f
   have g:∀ b:Bool,b=(decide (UH c<0) || decide ((lnE t (s.drop (i+1))).1=[]))→K (ez (UH c,(lnE t (s.drop (i+1))).1)) (H.set id (.obj v (.agg [ts (lnE t (s.drop (i+1))).2,tb (β || b)]))++[.obj 0 (ez (UH c,(lnE t (s.drop (i+1))).1))]):=fun b hb=>by
    refine f _ ?_ ?_
    ·rw [hb]
     unfold UH
     cases hkf:Yg c with
     | none=>simp
     | some k =>
      have hk0:¬ k<0:=by unfold UH at hkz; rw [hkf] at hkz; unfold Yg at hkf; split at hkf; (· cases hkf; omega); split at hkf; (· cases hkf; omega); split at hkf; (· cases hkf; omega); cases hkf
      by_cases hn:(lnE t (s.drop (i+1))).1=[]
      ·simp [hn]
      ·simp [hn,hk0]
    ·intro e0 r0 h
     cases hkf:Yg c with
     | none=>rw [hkf] at h; cases h
     | some k =>
      rw [hkf] at h
      simp only at h
      split at h
      ·cases h
      ·cases h
       unfold UH
       rw [hkf]
       exact ⟨rfl,rfl⟩
   clear f hK el
   have hcp:=Zb (s.drop (i+1)) noE
   unfold lnE at g
   unfold Lib.trimPrefix Lib.hasPrefix at hcp
   generalize s.drop (i+1)=q at *
   generalize UH c=k at *
   have htk1:(c::t).take 1=[c]:=rfl
   have hdp1:(c::t).drop 1=t:=rfl
   have hl1:1≤(c::t).length:=by simp
   simp -dsimp (disch:=first | assumption | omega | (simp only [Ah];try omega)) only [↓Ai,Ad,Ag,Af,eq_self,Nat.reduceEqDiff,↓reduceIte,reduceCtorEq,Nat.reduceLeDiff,hne,↓Dw,↓LJ,↓Agk,UU,htk1]
   refine hsig.calls rfl fun x hx => ?_
   subst hx
   simp -dsimp (disch:=first | assumption | omega | (simp only [Ah];try omega)) only [↓Ai,Ad,Ag,Af,eq_self,Nat.reduceEqDiff,↓reduceIte,reduceCtorEq,Nat.reduceLeDiff,UU,hdp1,↓KR,↓LC,Zr]
   refine hcp.calls rfl fun x hx => ?_
   subst hx
   by_cases hp:noE.isPrefixOf q=true
   ·rw [if_pos hp] at g
    simp only at g
    rw [if_pos hp,hp]
    simp -dsimp (disch:=first | assumption | omega | (simp only [Ah];try omega)) only [↓Ai,Ad,Ag,Af,eq_self,Nat.reduceEqDiff,↓reduceIte,reduceCtorEq,Nat.reduceLeDiff,hdp1,UU,ho,↓E5]
    have g2:=g _ rfl
    cases β
    ·by_cases hk0:k<0
     ·simp only [hk0,decide_true,Bool.true_or,Bool.or_true] at g2
      simp -dsimp (disch:=first | assumption | omega | (simp only [Ah];try omega)) only [↓Ai,Ad,Ag,Af,eq_self,Nat.reduceEqDiff,↓reduceIte,Nat.reduceAdd,reduceCtorEq,↓Bg,↓AX]
      exact g2
     ·by_cases ht0:t=[]
      ·subst ht0
       simp only [hk0,decide_false,decide_true,Bool.false_or] at g2
       simp -dsimp (disch:=first | assumption | omega | (simp only [Ah];try omega)) only [↓Ai,Ad,Ag,Af,eq_self,Nat.reduceEqDiff,↓reduceIte,Nat.reduceAdd,reduceCtorEq,↓Bg,↓AX]
       exact g2
      ·simp only [hk0,ht0,decide_false,Bool.false_or] at g2
       simp -dsimp (disch:=first | assumption | omega | (simp only [Ah];try omega)) only [↓Ai,Ad,Ag,Af,eq_self,Nat.reduceEqDiff,↓reduceIte,Nat.reduceAdd,reduceCtorEq,ht0,↓Bg,↓AX]
       exact g2
    ·simp only [Bool.true_or] at g2
     simp -dsimp (disch:=first | assumption | omega | (simp only [Ah];try omega)) only [↓Ai,Ad,Ag,Af,eq_self,Nat.reduceEqDiff,↓reduceIte,Nat.reduceAdd,reduceCtorEq,↓Bg,↓AX]
     exact g2
   ·rw [if_neg hp] at g
    simp only at g
    have hp2:noE.isPrefixOf q=false:=Bool.eq_false_iff.2 hp
    rw [if_neg hp,hp2]
    have ht0:¬ (t++[10]=([]:List UInt8)):=by simp
    simp -dsimp (disch:=first | assumption | omega | (simp only [Ah];try omega)) only [↓Ai,Ad,Ag,Af,eq_self,Nat.reduceEqDiff,↓reduceIte,reduceCtorEq,ho,↓E5]
    have g2:=g _ rfl
    cases β
    ·by_cases hk0:k<0
     ·simp only [hk0,decide_true,Bool.true_or,Bool.or_true] at g2
      simp -dsimp (disch:=first | assumption | omega | (simp only [Ah];try omega)) only [↓Ai,Ad,Ag,Af,eq_self,Nat.reduceEqDiff,↓reduceIte,Nat.reduceAdd,reduceCtorEq,↓Bg,↓AX]
      exact g2
     ·simp only [hk0,ht0,decide_false,Bool.false_or] at g2
      simp -dsimp (disch:=first | assumption | omega | (simp only [Ah];try omega)) only [↓Ai,Ad,Ag,Af,eq_self,Nat.reduceEqDiff,↓reduceIte,Nat.reduceAdd,reduceCtorEq,ht0,↓Bg,↓AX]
      exact g2
    ·simp only [Bool.true_or] at g2
     simp -dsimp (disch:=first | assumption | omega | (simp only [Ah];try omega)) only [↓Ai,Ad,Ag,Af,eq_self,Nat.reduceEqDiff,↓reduceIte,Nat.reduceAdd,reduceCtorEq,↓Bg,↓AX]
     exact g2
end
section
open Go.RowKit
variable [A8]
theorem Aq.giveLast {P:Program} {f:FuncId} {args:List TV} {H:List Ob} {K:TV→List Ob→Prop} (h:Aq P f args H fun x H'=>∃ (xs:List TV) (g k v n m cp:Nat) (cs:List TV),x = .agg (xs++[.os g k v [] 0 n cp])∧H'[k]?=some (.obj v (.arr m g cs))∧n≤cs.length∧K (.agg (xs++[.sl g (cs.take n)])) (H'.set k (.gone v))):Aq P f args H K:=by
 intro β F w vs hs hv
 refine (h β F w vs hs hv).mono ?_
 rintro _ w' ⟨v,x,β',H',F',rfl,⟨xs,g,k,ver,n,m,cp,cs,rfl,ho,hn,hK⟩,hs',hl,hx⟩
 obtain ⟨k1,k2⟩:=hs'.freeze ho rfl
 refine ⟨v,_,β',_,_,rfl,hK,k1,hl.trans k2,?_⟩
 have hcs:CZ [] g 0 n (.arr m g cs)=some (cs.take n):=by unfold CZ; simp [Eh,hn]
 rcases hx with (hx | hx | ⟨us,hx,rfl⟩) | ⟨_,_,hx,_⟩
 ·cases hx
 ·cases hx
 ·refine .inl (.inr (.inr ⟨us,?_,rfl⟩))
  rw [Am] at hx ⊢
  obtain ⟨a,b,rfl,h1,h2⟩:=Ap.split hx
  refine Ap.append (Ap.mono (k2.mono hs') h1) ?_
  rw [Ap] at h2 ⊢
  obtain ⟨c,d,rfl,h3,h4⟩:=h2
  refine ⟨c,d,rfl,hs'.give ho hcs h3,?_⟩
  rw [Ap] at h4 ⊢
  exact h4
 ·cases hx
end
section
open Go.RowKit
variable [A8] [Aj] [AU] [A7] [AL] [Ih]
theorem Aof {l:List EZ} {n:Nat} (h:n=l.length):(l.map ez).take n=l.map ez:=by rw [List.take_of_length_le (by simp [h])]
theorem Vh {l:List EZ} {x:EZ}:l.map ez++[TV.agg [i64 x.1,ts x.2]]=(l++[x]).map ez:=by simp [ez]
theorem WU {a b:TV}:(List.replicate 1 a).set 0 b=[b]:=by simp
theorem Aai {HH:List Ob} {k ver:Nat} {a b:Int} {es:List EZ} (h:HH[k]?=some (.obj ver (.arr es.length 2 (es.map ez)))):AlJ HH [.agg [i64 a,i64 b,.os 2 k ver [] 0 es.length es.length]]=some [.agg [i64 a,i64 b,.sl 2 (es.map ez)]]:=by
 unfold AlJ
 simp -dsimp (disch:=first | assumption | omega | (simp only [Ah];try omega)) only [Af,eq_self,↓reduceIte,Jv,Eo,h,CZ,Eh]
def chg (es:List EZ):Bool:=es.any (fun e=>decide (e.1≠0))
structure HSt (s:List UInt8) (a b n m:Int) (es:List EZ) (r:List UInt8) (β:Bool) (ch:Bool):Prop where
 bad:β=true→IP s=none
 good:β=false→∃ A N B M:Nat,a=(A:Int)∧n=(N:Int)∧b=(B:Int)∧m=(M:Int)∧(IP s=match Ae1 N M r es with | none=>none | some (es',r')=>some (⟨A,B,es'⟩,r'))∧es.length+r.length≤s.length∧ch=chg es
 len:es.length≤s.length+1
 rest:r.length≤s.length
theorem HSt.start {s r:List UInt8} {a b n m:Int} {β:Bool} (h:β=(WN s).isNone) (hv:∀ p q r0,WN s=some (p,q,r0)→a=(p.1:Int)∧n=(p.2:Int)∧b=(q.1:Int)∧m=(q.2:Int)∧r=r0) (hr:r.length≤s.length):HSt s a b n m [] r β false:=by
 refine ⟨fun hb => ?_,fun hb => ?_,by simp,hr⟩
 ·unfold IP
  cases hh:WN s with
  | none=>rfl
  | some t=>rw [hb,hh] at h; cases h
 ·cases hh:WN s with
  | none=>rw [hb,hh] at h; cases h
  | some t =>
   obtain ⟨⟨A,N⟩,⟨B,M⟩,r0⟩:=t
   obtain ⟨h1,h2,h3,h4,rfl⟩:=hv _ _ _ hh
   refine ⟨A,N,B,M,h1,h2,h3,h4,?_,by simpa using hr,rfl⟩
   unfold IP
   rw [hh]
   rfl
theorem AlV (es:List EZ) (e:EZ):chg (es++[e])=(chg es || decide (e.1≠0)):=by unfold chg; simp
theorem HSt.step {s r r2:List UInt8} {a b n m:Int} {ch:Bool} {es:List EZ} {e:EZ} {β2:Bool} (h:HSt s a b n m es r false ch) (hc:(zN es:Int)<n∨(zM es:Int)<m) (hβ:β2=(false || (lnF r).isNone)) (hv:∀ e0 r0,lnF r=some (e0,r0)→e=e0∧r2=r0) (hr:r2.length≤r.length):HSt s a b n m (es++[e]) r2 β2 (ch || decide (e.1≠0)):=by
 obtain ⟨A,N,B,M,h1,h2,h3,h4,h5,h6,h7⟩:=h.good rfl
 have hc2:zN es<N∨zM es<M:=by omega
 refine ⟨fun hb => ?_,fun hb => ?_,by simp; omega,by omega⟩
 ·cases hl:lnF r with
  | none=>rw [h5,Ado hc2 hl]
  | some t=>rw [hb,hl] at hβ; cases hβ
 ·cases hl:lnF r with
  | none=>rw [hb,hl] at hβ; cases hβ
  | some t =>
   obtain ⟨e0,r0⟩:=t
   obtain ⟨rfl,rfl⟩:=hv _ _ hl
   have hsp:=WX hl
   exact ⟨A,N,B,M,h1,h2,h3,h4,by rw [h5,AcM hc2 hl],by simp; omega,by rw [AlV,h7]⟩
theorem HSt.stop {s r:List UInt8} {a b n m:Int} {ch:Bool} {es:List EZ} {β:Bool} (h:HSt s a b n m es r β ch) (hc:β=false→¬ ((zN es:Int)<n∨(zM es:Int)<m)) :
  (β || !ch || decide ((zN es:Int)≠n) || decide ((zM es:Int)≠m))=(IP s).isNone∧∀ x r0,IP s=some (x,r0)→a=(x.at_:Int)∧b=(x.to_:Int)∧es=x.es∧r=r0:=by
 cases β with
 | true=>rw [h.bad rfl]; exact ⟨rfl,fun x r0 hx=>by cases hx⟩
 | false =>
  obtain ⟨A,N,B,M,h1,h2,h3,h4,h5,h6,h7⟩:=h.good rfl
  have hc2:¬ (zN es<N∨zM es<M):=by have:=hc rfl; omega
  rw [h5,X0 hc2]
  by_cases hg:zN es=N∧zM es=M∧chg es=true
  ·have:zN es=N∧zM es=M∧es.any (fun e=>decide (e.1≠0))=true:=hg
   rw [if_pos this]
   refine ⟨?_,fun x r0 hx => ?_⟩
   ·rw [h7,hg.2.2,h2,h4,hg.1,hg.2.1]; simp
   ·cases hx; exact ⟨h1,h3,rfl,rfl⟩
  ·have:¬ (zN es=N∧zM es=M∧es.any (fun e=>decide (e.1≠0))=true):=hg
   rw [if_neg this]
   refine ⟨?_,fun x r0 hx=>by cases hx⟩
   rw [h7,h2,h4]
   by_cases g1:chg es=true
   ·by_cases g2:zN es=N
    ·have g3:¬ zM es=M:=fun g3=>hg ⟨g2,g3,g1⟩
     have:¬ (zM es:Int)=(M:Int):=by omega
     simp [this]
    ·have:¬ (zN es:Int)=(N:Int):=by omega
     simp [this]
   ·simp [Bool.eq_false_iff.2 g1]
theorem Ap7 {s:List UInt8} (hs:s.length≤900000) {id v:Nat} {H:List Ob} (ho:H[id]?=some (.obj v (.agg [ts s,tb false]))) {K:TV→List Ob→Prop}
  (hK:∀ (a b:Int) (es:List EZ) (r:List UInt8) (β':Bool) (ver m:Nat) (o1 o2:Ob) (T:List Ob),β'=(IP s).isNone→(∀ h r0,IP s=some (h,r0)→a=(h.at_:Int)∧b=(h.to_:Int)∧es=h.es∧r=r0)→r.length≤s.length→es.length≤1000001 →
   K (.agg [i64 a,i64 b,.os 2 (H.length+2) ver [] 0 es.length m]) (H.set id (.obj v (.agg [ts r,tb β']))++[o1,o2]++[.obj ver (.arr m 2 (es.map ez))]++T)):Aq Tryz.prog 27 [.op id v []] H K:=by
 refine Rt (by simp) ?_
 have hid:id<H.length:=(List.getElem?_eq_some_iff.1 ho).1
 have hset:∀ (X Y:Ob) (T:List Ob),(H.set id X++T).set id Y=H.set id Y++T:=fun X Y T=>by rw [List.set_append_left _ _ (by rw [List.length_set]; exact hid),List.set_set]
 have hlen:∀ X:Ob,(H.set id X).length=H.length:=fun X=>List.length_set ..
 simp -dsimp (disch:=first | assumption | omega | (simp only [Ah];try omega)) only [↓Ai,Ad,Ag,Af,eq_self,Nat.reduceEqDiff,↓reduceIte,reduceCtorEq,↓PS,↓JP,↓J4]
 refine Rh (Ade (id:=id) (v:=v) (s:=s) (β:=false) (by rw [List.append_assoc,List.getElem?_append_left hid]; exact ho) ?_)
 rw [List.append_assoc,List.set_append_left _ _ hid]
 have hd1:(OX [64,64,32,45] s).length≤s.length:=SC _ _
 have w1:∀ r,Ig wAt s=some r→Lib.hasPrefix s [64,64,32,45]=true∧OX [64,64,32,45] s=r:=fun r=>Aao
 have w1n:Ig wAt s=none→Lib.hasPrefix s [64,64,32,45]=false:=Aal
 generalize OX [64,64,32,45] s=s1 at *
 generalize hβ1:(false || !Lib.hasPrefix s [64,64,32,45])=β1
 simp -dsimp (disch:=first | assumption | omega | (simp only [Ah];try omega)) only [↓Ai,Ad,Ag,Af,eq_self,Nat.reduceEqDiff,↓reduceIte,reduceCtorEq,↓Kq]
 refine Rh (Ahu (by omega) (X7 hid) fun a n s2 β2 hβ2 hv2 ha0 ha1 hn0 hn1 hd2 => ?_)
 rw [hset]
 simp -dsimp (disch:=first | assumption | omega | (simp only [Ah];try omega)) only [↓Ai,Ad,Ag,Af,eq_self,Nat.reduceEqDiff,↓reduceIte,reduceCtorEq,↓Ko]
 refine Rh (Ade (X7 hid) ?_)
 rw [hset]
 have hd3:(OX [32,43] s2).length≤s2.length:=SC _ _
 have w3:∀ r,Ig wPl s2=some r→Lib.hasPrefix s2 [32,43]=true∧OX [32,43] s2=r:=fun r=>Aao
 have w3n:Ig wPl s2=none→Lib.hasPrefix s2 [32,43]=false:=Aal
 generalize OX [32,43] s2=s3 at *
 generalize hβ3:(β2 || !Lib.hasPrefix s2 [32,43])=β3
 simp -dsimp (disch:=first | assumption | omega | (simp only [Ah];try omega)) only [↓Ai,Ad,Ag,Af,eq_self,Nat.reduceEqDiff,↓reduceIte,reduceCtorEq,↓J3]
 refine Rh (Ahu (by omega) (X7 hid) fun b m s4 β4 hβ4 hv4 hb0 hb1 hm0 hm1 hd4 => ?_)
 rw [hset]
 simp -dsimp (disch:=first | assumption | omega | (simp only [Ah];try omega)) only [↓Ai,Ad,Ag,Af,eq_self,Nat.reduceEqDiff,↓reduceIte,reduceCtorEq,↓Kv]
 refine Rh (Ade (X7 hid) ?_)
 rw [hset]
 have hd5:(OX [32,64,64,10] s4).length≤s4.length:=SC _ _
 have w5:∀ r,Ig wEn s4=some r→Lib.hasPrefix s4 [32,64,64,10]=true∧OX [32,64,64,10] s4=r:=fun r=>Aao
 have w5n:Ig wEn s4=none→Lib.hasPrefix s4 [32,64,64,10]=false:=Aal
 generalize OX [32,64,64,10] s4=s5 at *
 generalize hβ5:(β4 || !Lib.hasPrefix s4 [32,64,64,10])=β5
 have head:β5=(WN s).isNone∧∀ p q r0,WN s=some (p,q,r0)→a=(p.1:Int)∧n=(p.2:Int)∧b=(q.1:Int)∧m=(q.2:Int)∧s5=r0:=by
  unfold WN
  cases k1:Ig wAt s with
  | none =>
   rw [w1n k1] at hβ1
   subst hβ1
   have e2:β2=true:=by rw [hβ2]; rfl
   subst e2
   have e3:β3=true:=by rw [←hβ3]; rfl
   subst e3
   have e4:β4=true:=by rw [hβ4]; rfl
   subst e4
   exact ⟨by rw [←hβ5]; rfl,fun p q r0 h=>(by cases h)⟩
  | some r1 =>
   obtain ⟨p1,rfl⟩:=w1 r1 k1
   rw [p1] at hβ1
   subst hβ1
   simp only
   cases k2:Yb s1 with
   | none =>
    rw [k2] at hβ2
    have e2:β2=true:=by rw [hβ2]; rfl
    subst e2
    have e3:β3=true:=by rw [←hβ3]; rfl
    subst e3
    have e4:β4=true:=by rw [hβ4]; rfl
    subst e4
    exact ⟨by rw [←hβ5]; rfl,fun p q r0 h=>(by cases h)⟩
   | some t2 =>
    obtain ⟨A,N,r2⟩:=t2
    obtain ⟨ea,en,rfl⟩:=hv2 A N r2 k2
    rw [k2] at hβ2
    have e2:β2=false:=by rw [hβ2]; rfl
    subst e2
    simp only
    cases k3:Ig wPl s2 with
    | none =>
     rw [w3n k3] at hβ3
     have e3:β3=true:=by rw [←hβ3]; rfl
     subst e3
     have e4:β4=true:=by rw [hβ4]; rfl
     subst e4
     exact ⟨by rw [←hβ5]; rfl,fun p q r0 h=>(by cases h)⟩
    | some r3 =>
     obtain ⟨p3,rfl⟩:=w3 r3 k3
     rw [p3] at hβ3
     subst hβ3
     simp only
     cases k4:Yb s3 with
     | none =>
      rw [k4] at hβ4
      have e4:β4=true:=by rw [hβ4]; rfl
      subst e4
      exact ⟨by rw [←hβ5]; rfl,fun p q r0 h=>(by cases h)⟩
     | some t4 =>
      obtain ⟨B,M,r4⟩:=t4
      obtain ⟨eb,em,rfl⟩:=hv4 B M r4 k4
      rw [k4] at hβ4
      have e4:β4=false:=by rw [hβ4]; rfl
      subst e4
      simp only
      cases k5:Ig wEn s4 with
      | none =>
       rw [w5n k5] at hβ5
       exact ⟨by rw [←hβ5]; rfl,fun p q r0 h=>(by cases h)⟩
      | some r5 =>
       obtain ⟨p5,rfl⟩:=w5 r5 k5
       rw [p5] at hβ5
       refine ⟨by rw [←hβ5]; rfl,fun p q r0 h => ?_⟩
       cases h
       exact ⟨ea,en,eb,em,rfl⟩
 have hd:s5.length≤s.length:=by omega
 clear hβ1 hβ2 hβ3 hβ4 hβ5 w1 w1n w3 w3n w5 w5n hv2 hv4 hd1 hd2 hd3 hd4 hd5
 simp -dsimp (disch:=first | assumption | omega | (simp only [Ah];try omega)) only [↓Ai,Ad,Ag,Af,eq_self,Nat.reduceEqDiff,↓reduceIte,Nat.reduceAdd,reduceCtorEq,↓Lm,↓Lc,↓KH,↓Lj,hlen]
 have hsz:H.length≤9223372036854775807∨True := .inr trivial
 have st0:=HSt.start head.1 head.2 hd
 have hA:∀ (X o1 o2 o3:Ob) (T:List Ob),(H.set id X++[o1,o2]++[o3]++T)[id]?=some X:=fun X o1 o2 o3 T=>by rw [List.append_assoc,List.append_assoc]; exact X7 hid
 have hA1:∀ (X o1 o2 o3:Ob) (T:List Ob),(H.set id X++[o1,o2]++[o3]++T)[H.length+1]?=some o2:=fun X o1 o2 o3 T=>by rw [List.append_assoc,List.append_assoc,List.getElem?_append_right (by rw [hlen]; omega),hlen]; simp
 have hA2:∀ (X o1 o2 o3:Ob) (T:List Ob),(H.set id X++[o1,o2]++[o3]++T)[H.length+2]?=some o3:=fun X o1 o2 o3 T=>by rw [List.append_assoc,List.append_assoc,List.getElem?_append_right (by rw [hlen]; omega),hlen]; simp
 have hA0:∀ (X o1 o2 o3:Ob) (T:List Ob),(H.set id X++[o1,o2]++[o3]++T)[H.length]?=some o1:=fun X o1 o2 o3 T=>by rw [List.append_assoc,List.append_assoc,List.getElem?_append_right (by rw [hlen]; omega),hlen]; simp
 have hset3:∀ (X Y o1 o2 o3:Ob) (T:List Ob),(H.set id X++[o1,o2]++[o3]++T).set id Y=H.set id Y++[o1,o2]++[o3]++T:=fun X Y o1 o2 o3 T=>by rw [List.append_assoc,List.append_assoc,hset,List.append_assoc,List.append_assoc]
 refine D6 (fun q e H'=>∃ (es:List EZ) (r:List UInt8) (β ch:Bool) (ver:Nat) (T:List Ob),q=(if β then 0 else r.length+1)∧HSt s a b n m es r β ch ∧
  e=[(0,.op id v []),(2,.op H.length 0 []),(3,.op (H.length+1) 0 []),(5,i64 n),(7,i64 m),(8,tb ch),(9,i64 (zN es:Int)),(10,i64 (zM es:Int))] ∧
  H'=H.set id (.obj v (.agg [ts r,tb β]))++[.obj 0 (.agg [i64 ((0:Nat):Int),i64 ((0:Nat):Int),.val (.slice none 0 0)]),.obj 0 (.agg [i64 a,i64 b,.os 2 (H.length+2) ver [] 0 es.length es.length])]++[.obj ver (.arr es.length 2 (es.map ez))]++T) (if β5 then 0 else s5.length+1) ?_ ?_
 ·exact ⟨[],s5,β5,false,0,[],rfl,st0,rfl,by rw [List.append_nil]; rfl⟩
 ·rintro q e H' ⟨es,r,β,ch,ver,T,rfl,st,rfl,rfl⟩
  have hzn:=Am8 es
  have hzm:=Amz es
  have hel:=st.len
  have hrl:=st.rest
  have fin:(β=false→¬ ((zN es:Int)<n∨(zM es:Int)<m))→∀ qq:TV,vwp Tryz.prog CU (Q4 DN K) [(0,.op id v []),(2,.op H.length 0 []),(3,.op (H.length+1) 0 []),(5,i64 n),(7,i64 m),(8,tb ch),(48,qq)]
    (H.set id (.obj v (.agg [ts r,tb β]))++[.obj 0 (.agg [i64 ((0:Nat):Int),i64 ((0:Nat):Int),.val (.slice none 0 0)]),.obj 0 (.agg [i64 a,i64 b,.os 2 (H.length+2) ver [] 0 es.length es.length])]++[.obj ver (.arr es.length 2 (es.map ez))]++T):=by
   intro hc qq
   obtain ⟨f1,f2⟩:=st.stop hc
   have hK2:=fun β' o1 o2 h1=>hK a b es r β' ver es.length o1 o2 T h1 f2 (by omega) (by omega)
   simp -dsimp (disch:=first | assumption | omega | (simp only [Ah];try omega)) only [↓Ai,Ad,Ag,Af,eq_self,Nat.reduceEqDiff,↓reduceIte,Nat.reduceAdd,reduceCtorEq,↓Ld,hA1]
   refine (TK es a b (by omega)).lends (Aai (hA2 _ _ _ _ _)) fun x hx=>⟨by rw [hx]; rfl,?_⟩
   subst hx
   cases β with
   | true =>
    have hK3:=hK2 true
    simp only [Bool.true_or] at f1
    cases ch
    all_goals
     simp -dsimp (disch:=first | assumption | omega | (simp only [Ah];try omega)) only [↓Ai,Ad,Ag,Af,eq_self,Nat.reduceEqDiff,↓reduceIte,Nat.reduceAdd,reduceCtorEq,↓BJ,↓BX,hA,hA0,hA1]
     exact hK3 _ _ f1
   | false =>
    cases ch with
    | false =>
     simp only [Bool.not_false,Bool.or_true,Bool.true_or] at f1
     simp -dsimp (disch:=first | assumption | omega | (simp only [Ah];try omega)) only [↓Ai,Ad,Ag,Af,eq_self,Nat.reduceEqDiff,↓reduceIte,Nat.reduceAdd,reduceCtorEq,↓BJ,↓BX,hA,hA0,hA1]
     exact hK2 _ _ _ f1
    | true =>
     by_cases g1:(zN es:Int)=n
     ·by_cases g2:(zM es:Int)=m
      ·have f3:false=(IP s).isNone:=by rw [←f1]; simp [g1,g2]
       simp -dsimp (disch:=first | assumption | omega | (simp only [Ah];try omega)) only [↓Ai,Ad,Ag,Af,eq_self,Nat.reduceEqDiff,↓reduceIte,Nat.reduceAdd,reduceCtorEq,g1,g2,↓BJ,↓BX,hA,hA0,hA1]
       exact hK2 _ _ _ f3
      ·have f3:true=(IP s).isNone:=by rw [←f1]; simp [g2]
       simp -dsimp (disch:=first | assumption | omega | (simp only [Ah];try omega)) only [↓Ai,Ad,Ag,Af,eq_self,Nat.reduceEqDiff,↓reduceIte,Nat.reduceAdd,reduceCtorEq,g1,g2,↓BJ,↓BX,hA,hA0,hA1]
       exact hK2 _ _ _ f3
     ·have f3:true=(IP s).isNone:=by rw [←f1]; simp [g1]
      simp -dsimp (disch:=first | assumption | omega | (simp only [Ah];try omega)) only [↓Ai,Ad,Ag,Af,eq_self,Nat.reduceEqDiff,↓reduceIte,Nat.reduceAdd,reduceCtorEq,g1,↓BJ,↓BX,hA,hA0,hA1]
      exact hK2 _ _ _ f3
  cases β with
  | true =>
   simp -dsimp (disch:=first | assumption | omega | (simp only [Ah];try omega)) only [↓Ai,Ad,Ag,Af,eq_self,Nat.reduceEqDiff,↓reduceIte,Nat.reduceAdd,reduceCtorEq,↓Cb,hA]
   exact fin (fun h=>by cases h) _
  | false =>
   have go:((zN es:Int)<n∨(zM es:Int)<m)→∀ qq:TV,vwp Tryz.prog DY (Rnd (H.length+2+1) [0,2,3,5,7,8,9,10] (Blk 0 (Thn Tryz.prog CU (Q4 DN K))) (fun q e H'=>∃ (es:List EZ) (r:List UInt8) (β ch:Bool) (ver:Nat) (T:List Ob),q=(if β then 0 else r.length+1)∧HSt s a b n m es r β ch ∧
  e=[(0,.op id v []),(2,.op H.length 0 []),(3,.op (H.length+1) 0 []),(5,i64 n),(7,i64 m),(8,tb ch),(9,i64 (zN es:Int)),(10,i64 (zM es:Int))] ∧
  H'=H.set id (.obj v (.agg [ts r,tb β]))++[.obj 0 (.agg [i64 ((0:Nat):Int),i64 ((0:Nat):Int),.val (.slice none 0 0)]),.obj 0 (.agg [i64 a,i64 b,.os 2 (H.length+2) ver [] 0 es.length es.length])]++[.obj ver (.arr es.length 2 (es.map ez))]++T) (r.length+1)) [(0,.op id v []),(2,.op H.length 0 []),(3,.op (H.length+1) 0 []),(5,i64 n),(7,i64 m),(8,tb ch),(48,qq)]
    (H.set id (.obj v (.agg [ts r,tb false]))++[.obj 0 (.agg [i64 ((0:Nat):Int),i64 ((0:Nat):Int),.val (.slice none 0 0)]),.obj 0 (.agg [i64 a,i64 b,.os 2 (H.length+2) ver [] 0 es.length es.length])]++[.obj ver (.arr es.length 2 (es.map ez))]++T):=by
    intro hc qq
    simp -dsimp (disch:=first | assumption | omega | (simp only [Ah];try omega)) only [↓Ai,Ad,Ag,Af,eq_self,↓reduceIte,↓Lu]
    refine Rh (AqJ (by omega) (hA _ _ _ _ _) fun e r2 β2 hβ hv he0 he1 hel2 hr2 => ?_)
    rw [hset3]
    have st2:=st.step hc hβ hv hr2
    have hl1:∀ (x:TV),[x].length=1:=fun x=>rfl
    have hB:∀ (X o1 o2 o3:Ob) (T G:List Ob),H.set id X++[o1,o2]++[o3]++T++G=H.set id X++[o1,o2]++[o3]++(T++G):=fun X o1 o2 o3 T G=>List.append_assoc ..
    rw [hB]
    generalize hT1:T++[Ob.obj 0 (ez e)]=T1
    have hC:∀ (X o1 o2 o3:Ob) (T:List Ob) (o:Ob),(H.set id X++[o1,o2]++[o3]++T++[o])[H.length+2+1+T.length]?=some o:=fun X o1 o2 o3 T o=>by
     rw [List.getElem?_append_right (by simp; omega)]; simp [show H.length+2+1+T.length - (H.length+(T.length+1+1+1))=0 by omega]
    have hCs:∀ (X o1 o2 o3:Ob) (T:List Ob) (o Y:Ob),(H.set id X++[o1,o2]++[o3]++T++[o]).set (H.length+2+1+T.length) Y=H.set id X++[o1,o2]++[o3]++T++[Y]:=fun X o1 o2 o3 T o Y=>by
     rw [List.set_append_right _ _ (by simp; omega)]; simp [show H.length+2+1+T.length - (H.length+(T.length+1+1+1))=0 by omega]
    have hE1:∀ (X o1 o2 o3:Ob) (T:List Ob) (o:Ob),(H.set id X++[o1,o2]++[o3]++T++[o])[H.length+1]?=some o2:=fun X o1 o2 o3 T o=>by rw [hB]; exact hA1 ..
    have hE2:∀ (X o1 o2 o3:Ob) (T:List Ob) (o:Ob),(H.set id X++[o1,o2]++[o3]++T++[o])[H.length+2]?=some o3:=fun X o1 o2 o3 T o=>by rw [hB]; exact hA2 ..
    rw [Aas]
    have el:es.length+1=(es++[e]).length:=by simp
    have hmeas:(if β2 then 0 else r2.length+1)<r.length+1:=by
     cases β2 with
     | true=>simp
     | false =>
      cases hl:lnF r with
      | none=>rw [hl] at hβ; cases hβ
      | some t =>
       obtain ⟨e0,r0⟩:=t
       obtain ⟨rfl,rfl⟩:=hv _ _ hl
       have:=(WX hl).1
       simp; omega
    cases ch
    ·by_cases hk0:e.1=0
     ·have hkt:(e.1=0)=True:=eq_true hk0
      simp -dsimp (disch:=first | assumption | omega | (simp only [Ah];try omega)) only [↓Ai,Ad,Ag,Af,eq_self,Nat.reduceEqDiff,↓reduceIte,Nat.reduceAdd,reduceCtorEq,Nat.reduceLeDiff,↓Dx,hC,hCs,hE1,hE2,WU,hl1,Vh]
      rw [el]
      refine (TK (es++[e]) a b (by simp; omega)).lends (Aai (by rw [hB,hB]; exact hA2 ..)) fun x hx=>⟨by rw [hx]; rfl,?_⟩
      subst hx
      simp -dsimp (disch:=first | assumption | omega | (simp only [Ah];try omega)) only [↓Ai,Ad,Ag,Af,eq_self,Nat.reduceEqDiff,↓reduceIte,reduceCtorEq]
      refine BU (if β2 then 0 else r2.length+1) hmeas (by simp; omega) ⟨es++[e],r2,β2,_,ver+1,_,rfl,?_,rfl,by rw [hB,hB,←el]⟩
      simpa [hk0] using st2
     ·simp -dsimp (disch:=first | assumption | omega | (simp only [Ah];try omega)) only [↓Ai,Ad,Ag,Af,eq_self,Nat.reduceEqDiff,↓reduceIte,Nat.reduceAdd,reduceCtorEq,Nat.reduceLeDiff,↓Dx,hC,hCs,hE1,hE2,WU,hl1,Vh]
      rw [el]
      refine (TK (es++[e]) a b (by simp; omega)).lends (Aai (by rw [hB,hB]; exact hA2 ..)) fun x hx=>⟨by rw [hx]; rfl,?_⟩
      subst hx
      simp -dsimp (disch:=first | assumption | omega | (simp only [Ah];try omega)) only [↓Ai,Ad,Ag,Af,eq_self,Nat.reduceEqDiff,↓reduceIte,reduceCtorEq]
      refine BU (if β2 then 0 else r2.length+1) hmeas (by simp; omega) ⟨es++[e],r2,β2,_,ver+1,_,rfl,?_,rfl,by rw [hB,hB,←el]⟩
      simpa [hk0] using st2
    ·simp -dsimp (disch:=first | assumption | omega | (simp only [Ah];try omega)) only [↓Ai,Ad,Ag,Af,eq_self,Nat.reduceEqDiff,↓reduceIte,Nat.reduceAdd,reduceCtorEq,Nat.reduceLeDiff,↓Dx,hC,hCs,hE1,hE2,WU,hl1,Vh]
     rw [el]
     refine (TK (es++[e]) a b (by simp; omega)).lends (Aai (by rw [hB,hB]; exact hA2 ..)) fun x hx=>⟨by rw [hx]; rfl,?_⟩
     subst hx
     simp -dsimp (disch:=first | assumption | omega | (simp only [Ah];try omega)) only [↓Ai,Ad,Ag,Af,eq_self,Nat.reduceEqDiff,↓reduceIte,reduceCtorEq]
     refine BU (if β2 then 0 else r2.length+1) hmeas (by simp; omega) ⟨es++[e],r2,β2,_,ver+1,_,rfl,?_,rfl,by rw [hB,hB,←el]⟩
     simpa [] using st2
   by_cases g1:(zN es:Int)<n
   ·simp -dsimp (disch:=first | assumption | omega | (simp only [Ah];try omega)) only [↓Ai,Ad,Ag,Af,eq_self,Nat.reduceEqDiff,↓reduceIte,Nat.reduceAdd,reduceCtorEq,↓Cb,hA,g1]
    exact go (.inl g1) _
   ·by_cases g2:(zM es:Int)<m
    ·simp -dsimp (disch:=first | assumption | omega | (simp only [Ah];try omega)) only [↓Ai,Ad,Ag,Af,eq_self,Nat.reduceEqDiff,↓reduceIte,Nat.reduceAdd,reduceCtorEq,↓Cb,hA,g1,g2]
     exact go (.inr g2) _
    ·simp -dsimp (disch:=first | assumption | omega | (simp only [Ah];try omega)) only [↓Ai,Ad,Ag,Af,eq_self,Nat.reduceEqDiff,↓reduceIte,Nat.reduceAdd,reduceCtorEq,↓Cb,hA,g1,g2]
     exact fin (fun _ h=>h.elim g1 g2) _
theorem Ard {s:List UInt8} (hs:s.length≤900000) {id v:Nat} {H:List Ob} (ho:H[id]?=some (.obj v (.agg [ts s,tb false]))) {K:TV→List Ob→Prop}
  (hK:∀ (a b:Int) (es:List EZ) (r:List UInt8) (β':Bool) (G:List Ob),β'=(IP s).isNone→(∀ h r0,IP s=some (h,r0)→a=(h.at_:Int)∧b=(h.to_:Int)∧es=h.es∧r=r0)→r.length≤s.length→es.length≤1000001 →
   K (.agg [i64 a,i64 b,.sl 2 (es.map ez)]) (H.set id (.obj v (.agg [ts r,tb β']))++G)):Aq Tryz.prog 27 [.op id v []] H K:=by
 refine Aq.giveLast (Ap7 hs ho fun a b es r β' ver m o1 o2 T h1 h2 h3 h4=>⟨[i64 a,i64 b],2,H.length+2,ver,es.length,m,m,es.map ez,rfl,?_,by simp,?_⟩)
 ·rw [List.append_assoc,List.append_assoc,List.getElem?_append_right (by simp)]; simp
 ·rw [Aof rfl,List.append_assoc,List.append_assoc,List.set_append_right _ _ (by simp)]
  exact hK a b es r β' _ h1 h2 h3 h4
end
section
open Go.RowKit Go.Extern.Stop Go.Stop Go.Extern
variable [A8]
theorem Ab4 (t:Addr) (w:World):(ReflectliteValue.unpack (.iface 59 (.pointer (some t)))).run Tryz.prog w
  = .ok (.agg #[.pointer (some ⟨10,59,none⟩),.pointer (some ⟨w.heap.size,0,none⟩),.int .u64 150]) (w.alloc (.cells #[.pointer (some t)] 59)):=by kernel_rfl
theorem Alb (a:Addr) (w:World):(ReflectliteValue.methodAny (ReflectliteValue.valueError "reflectlite.Value.Type" 0) (fun t _ _ _=>ReflectliteType.toType t) #[.agg #[.pointer (some ⟨10,59,none⟩),.pointer (some a),.int .u64 150]]).run Tryz.prog w
  = .ok (.iface 112 (.agg #[.pointer (some ⟨10,59,none⟩)])) w:=by kernel_rfl
theorem AaN (h:Value) (w:World):(Go.method 316 112 (.agg #[h]) "Kind").run Tryz.prog w = .ok (122,h) w:=by kernel_rfl
theorem Ah3 (w:World):((ReflectliteType.abiMethod fun t=>(fun a:Nat=>Value.int IntKind.u8 (a:Int)) <$> Rtype.kind t) #[.pointer (some ⟨10,59,none⟩)]).run Tryz.prog w = .ok (.int .u8 22) w:=by kernel_rfl
theorem AkO (w:World):((ReflectliteType.abiMethod fun t=>(fun a:Nat=>Value.int IntKind.u8 (a:Int)) <$> Rtype.kind t) #[.pointer (some ⟨10,31,none⟩)]).run Tryz.prog w = .ok (.int .u8 2) w:=by kernel_rfl
theorem rlm (z:Sem Value) (f:TypeId→Addr→Nat→Nat→Sem Value) (v:Value) :
  ReflectliteValue.method z f #[v]=(do match ← ReflectliteValue.parts v with | none=>z | some (t,a,fl)=>f t a fl (fl % 32)):=rfl
theorem AaK (a:Addr) (w:World):(ReflectliteValue.parts (.agg #[.pointer (some ⟨10,59,none⟩),.pointer (some a),.int .u64 150])).run Tryz.prog w = .ok (some (59,a,150)) w:=by kernel_rfl
theorem Af0 (a p:Addr) (W:World) (ha:W.cell? a=some (.pointer (some p))) :
  (ReflectliteValue.method (ReflectliteValue.valueError "reflectlite.Value.IsNil" 0) ReflectliteValue.isNil #[.agg #[.pointer (some ⟨10,59,none⟩),.pointer (some a),.int .u64 150]]).run Tryz.prog W = .ok (.bool false) W:=by
 rw [rlm]
 simp only [Sem.run_bind,AaK,Result.andThen]
 simp [ReflectliteValue.isNil,loadVar,isAgg,underlying,Tryz.underlying59,ha,Result.andThen]
theorem AaF (h:Value) (w:World):(Go.method 316 112 (.agg #[h]) "Elem").run Tryz.prog w = .ok (133,.agg #[h]) w:=by kernel_rfl
theorem SA (h:Value) (w:World):(Go.method 316 112 (.agg #[h]) "Implements").run Tryz.prog w = .ok (134,.agg #[h]) w:=by kernel_rfl
theorem PU (h:Value) (w:World):(Go.method 316 112 (.agg #[h]) "AssignableTo").run Tryz.prog w = .ok (131,.agg #[h]) w:=by kernel_rfl
theorem Ai4 (w:World):(ReflectliteType.method ReflectliteType.elem #[.agg #[.pointer (some ⟨10,59,none⟩)]]).run Tryz.prog w = .ok (.iface 112 (.agg #[.pointer (some ⟨10,31,none⟩)])) w:=by kernel_rfl
theorem YI (w:World):(ReflectliteType.relation "Implements" ReflectliteType.implements_ #[.agg #[.pointer (some ⟨10,31,none⟩)],.iface 112 (.agg #[.pointer (some ⟨10,25,none⟩)])]).run Tryz.prog w = .ok (.bool true) w:=by kernel_rfl
theorem Aee (v:Value) (w:World):(ReflectliteType.typeOf #[.iface 31 v]).run Tryz.prog w = .ok (.iface 112 (.agg #[.pointer (some ⟨10,31,none⟩)])) w:=by kernel_rfl
theorem YH (w:World):(ReflectliteType.relation "AssignableTo" ReflectliteType.assignableTo #[.agg #[.pointer (some ⟨10,31,none⟩)],.iface 112 (.agg #[.pointer (some ⟨10,31,none⟩)])]).run Tryz.prog w = .ok (.bool true) w:=by kernel_rfl
theorem Acr (e:Int) (w:World):(ReflectliteValue.unpack (.iface 31 (.int .i64 e))).run Tryz.prog w
  = .ok (.agg #[.pointer (some ⟨10,31,none⟩),.pointer (some ⟨w.heap.size,0,none⟩),.int .u64 130]) (w.alloc (.cells #[.int .i64 e] 31)):=by kernel_rfl
theorem Aex (w:World):(Rtype.elem? 59).run Tryz.prog w = .ok (some 31) w:=by kernel_rfl
theorem Apq (p:Addr) (w:World):(ReflectliteValue.mk 31 p ReflectliteValue.flagAddr).run Tryz.prog w = .ok (.agg #[.pointer (some ⟨10,31,none⟩),.pointer (some p),.int .u64 386]) w:=by kernel_rfl
theorem Ahj (a p:Addr) (W:World) (ha:W.cell? a=some (.pointer (some p))) :
  (ReflectliteValue.method (ReflectliteValue.valueError "reflectlite.Value.Elem" 0) ReflectliteValue.elem #[.agg #[.pointer (some ⟨10,59,none⟩),.pointer (some a),.int .u64 150]]).run Tryz.prog W
   = .ok (.agg #[.pointer (some ⟨10,31,none⟩),.pointer (some p),.int .u64 386]) W:=by
 rw [rlm]
 simp only [Sem.run_bind,AaK,Result.andThen]
 simp [ReflectliteValue.elem,loadVar,isAgg,underlying,Tryz.underlying59,ha,Result.andThen,Aex,Apq]
theorem rls (v x:Value):ReflectliteValue.set #[v,x]=(do
  let (some (dst,a,fl),some (src,b,_)):=(←ReflectliteValue.parts v,←ReflectliteValue.parts x)
   | unsupported (.noEntry "extern/(internal/reflectlite.Value).Set.zeroValue")
  if fl / ReflectliteValue.flagAddr % 2 == 0 then unsupported (.noEntry "extern/(internal/reflectlite.Value).Set.unaddressable")
  let val ← loadVar src b
  if ← Rtype.directlyAssignable dst src then storeVar dst a val
  else if ← Rtype.implements dst src then
   if (←Rtype.kind src) == 20 then
    match val with
    | .nilIface=>unsupported (.noEntry "extern/reflectlite: a nil value of one interface type handed on as a value of another")
    | _=>storeVar dst a val
   else storeVar dst a (.iface src val)
  else panicString ("reflectlite.Set: value of type " ++ (←Rtype.spelt src) ++ " is not assignable to type " ++ (←Rtype.spelt dst))
  pure (.tuple #[])):=rfl
theorem AdW (a:Addr) (w:World):(ReflectliteValue.parts (.agg #[.pointer (some ⟨10,31,none⟩),.pointer (some a),.int .u64 386])).run Tryz.prog w = .ok (some (31,a,386)) w:=by kernel_rfl
theorem AfH (a:Addr) (w:World):(ReflectliteValue.parts (.agg #[.pointer (some ⟨10,31,none⟩),.pointer (some a),.int .u64 130])).run Tryz.prog w = .ok (some (31,a,130)) w:=by kernel_rfl
theorem Ad8 (w:World):(Rtype.directlyAssignable 31 31).run Tryz.prog w = .ok true w:=by kernel_rfl
theorem Ame (ta b:Addr) (e:Int) (old:Value) (W:World) (hb:W.cell? b=some (.int .i64 e)) (ht:W.cell? ta=some old) (hf:W.frozen? ta=false) :
  (ReflectliteValue.set #[.agg #[.pointer (some ⟨10,31,none⟩),.pointer (some ta),.int .u64 386],.agg #[.pointer (some ⟨10,31,none⟩),.pointer (some b),.int .u64 130]]).run Tryz.prog W
   = .ok (.tuple #[]) (W.setCell ta (.int .i64 e)):=by
 rw [rls]
 simp only [Sem.run_bind,AdW,AfH,Result.andThen]
 simp [ReflectliteValue.flagAddr,loadVar,isAgg,underlying,Tryz.underlying31,hb,Result.andThen,Ad8,storeVar,Value.cells,storeCells,Addr.add]
 rw [run_store Tryz.prog W ta _ _ (by rfl)]
 simp [ht,hf]
set_option maxHeartbeats 4000000 in
theorem Ap1 (e:Int) (t:Addr) (old:Value) (w:World) (hg:w.cell? ⟨0,0,none⟩=some (.iface 112 (.agg #[.pointer (some ⟨10,25,none⟩)]))) (ht0:w.cell? t=some old) (hf0:w.frozen? t=false) :
  Calls Tryz.prog 20 #[.iface 31 (.int .i64 e),.iface 59 (.pointer (some t))] w fun ev w'=>ev = .returned (.bool true)∧w'=((((w.alloc (.cells #[.pointer (some t)] 59)).alloc (.cells #[.pointer (some ⟨10,59,none⟩),.pointer (some ⟨w.heap.size,0,none⟩),.int .u64 150] 89)).alloc (.cells #[.pointer (some ⟨10,59,none⟩),.pointer (some ⟨w.heap.size,0,none⟩),.int .u64 150] 89)).alloc (.cells #[.int .i64 e] 31)).setCell t (.int .i64 e):=by
 have h6:=@run_callFunc_extern Tryz.prog 35 _ (fun args=>ReflectliteValue.unpack (args.getD 0 (.tuple #[]))) Tryz.func35 (by kernel_rfl) (by kernel_rfl) (by kernel_rfl) (by kernel_rfl)
 have h7:=@run_callFunc_extern Tryz.prog 36 _ (ReflectliteValue.methodAny (ReflectliteValue.valueError "reflectlite.Value.Type" 0) (fun t _ _ _=>ReflectliteType.toType t)) Tryz.func36 (by kernel_rfl) (by kernel_rfl) (by kernel_rfl) (by kernel_rfl)
 have h8:=@run_callFunc_extern Tryz.prog 37 _ (ReflectliteValue.method (ReflectliteValue.valueError "reflectlite.Value.IsNil" 0) ReflectliteValue.isNil) Tryz.func37 (by kernel_rfl) (by kernel_rfl) (by kernel_rfl) (by kernel_rfl)
 have h27:=@run_callFunc_extern Tryz.prog 122 _ (ReflectliteType.abiMethod fun t=>do pure (.int .u8 (←Rtype.kind t))) Tryz.func122 (by kernel_rfl) (by kernel_rfl) (by kernel_rfl) (by kernel_rfl)
 have h37:=@run_callFunc_extern Tryz.prog 133 _ (ReflectliteType.method ReflectliteType.elem) Tryz.func133 (by kernel_rfl) (by kernel_rfl) (by kernel_rfl) (by kernel_rfl)
 have h38:=@run_callFunc_extern Tryz.prog 134 _ (ReflectliteType.relation "Implements" ReflectliteType.implements_) Tryz.func134 (by kernel_rfl) (by kernel_rfl) (by kernel_rfl) (by kernel_rfl)
 have h10:=@run_callFunc_extern Tryz.prog 49 _ ReflectliteType.typeOf Tryz.func49 (by kernel_rfl) (by kernel_rfl) (by kernel_rfl) (by kernel_rfl)
 have h35:=@run_callFunc_extern Tryz.prog 131 _ (ReflectliteType.relation "AssignableTo" ReflectliteType.assignableTo) Tryz.func131 (by kernel_rfl) (by kernel_rfl) (by kernel_rfl) (by kernel_rfl)
 have h11:=@run_callFunc_extern Tryz.prog 50 _ (ReflectliteValue.method (ReflectliteValue.valueError "reflectlite.Value.Elem" 0) ReflectliteValue.elem) Tryz.func50 (by kernel_rfl) (by kernel_rfl) (by kernel_rfl) (by kernel_rfl)
 have h12:=@run_callFunc_extern Tryz.prog 51 _ ReflectliteValue.set Tryz.func51 (by kernel_rfl) (by kernel_rfl) (by kernel_rfl) (by kernel_rfl)
 have tO:=Aee
 have mA:=PU
 have a25:=YH
 have v25:=Acr
 have f6:=Ab4
 have f7:=Alb
 have mK:=AaN
 have mE:=AaF
 have mI:=SA
 have k27:=Ah3
 have k25:=AkO
 have e27:=Ai4
 have i25:=YI
 have n8:=Af0 ⟨w.heap.size,0,none⟩ t ((w.alloc (.cells #[.pointer (some t)] 59)).alloc (.cells #[.pointer (some ⟨10,59,none⟩),.pointer (some ⟨w.heap.size,0,none⟩),.int .u64 150] 89)) (by simp)
 have hlt:0<w.heap.size:=by
  rcases Nat.lt_or_ge 0 w.heap.size with h | h
  ·exact h
  ·simp [World.cell?,Array.getElem?_eq_none h] at hg
 have hg2:((w.alloc (.cells #[.pointer (some t)] 59)).alloc (.cells #[.pointer (some ⟨10,59,none⟩),.pointer (some ⟨w.heap.size,0,none⟩),.int .u64 150] 89)).cell? ⟨0,0,none⟩=some (.iface 112 (.agg #[.pointer (some ⟨10,25,none⟩)])):=by
  rw [World.cell?_alloc_lt _ _ ⟨0,0,none⟩ (Nat.lt_of_lt_of_le hlt (by simp)),World.cell?_alloc_lt _ _ ⟨0,0,none⟩ hlt]; exact hg
 have htl:t.block<w.heap.size:=by
  rcases Nat.lt_or_ge t.block w.heap.size with h | h
  ·exact h
  ·simp [World.cell?,Array.getElem?_eq_none h] at ht0
 have el:=Ahj ⟨w.heap.size,0,none⟩ t (((w.alloc (.cells #[.pointer (some t)] 59)).alloc (.cells #[.pointer (some ⟨10,59,none⟩),.pointer (some ⟨w.heap.size,0,none⟩),.int .u64 150] 89)).alloc (.cells #[.pointer (some ⟨10,59,none⟩),.pointer (some ⟨w.heap.size,0,none⟩),.int .u64 150] 89)) (by rw [World.cell?_alloc_lt _ _ ⟨w.heap.size,0,none⟩ (by simp; omega)]; simp)
 have st:=Ame t ⟨w.heap.size+1+1+1,0,none⟩ e old ((((w.alloc (.cells #[.pointer (some t)] 59)).alloc (.cells #[.pointer (some ⟨10,59,none⟩),.pointer (some ⟨w.heap.size,0,none⟩),.int .u64 150] 89)).alloc (.cells #[.pointer (some ⟨10,59,none⟩),.pointer (some ⟨w.heap.size,0,none⟩),.int .u64 150] 89)).alloc (.cells #[.int .i64 e] 31))
  (by rw [World.cell?_alloc_at _ _ _ _ (by simp)]; rfl)
  (by rw [World.cell?_alloc_lt _ _ t (by simp; omega),World.cell?_alloc_lt _ _ t (by simp; omega),World.cell?_alloc_lt _ _ t (by simp; omega),World.cell?_alloc_lt _ _ t htl]; exact ht0)
  (by rw [World.frozen?_alloc_old _ _ t (by simp; omega),World.frozen?_alloc_old _ _ t (by simp; omega),World.frozen?_alloc_old _ _ t (by simp; omega),World.frozen?_alloc_old _ _ t (Nat.ne_of_lt htl)]; exact hf0)
 go_enter Tryz.func20,Tryz.ntmps20
 go_wp2
 refine wp_loop_rounds 1 ?_
 rw [rounds_succ]
 go_wp2
 go_ret
 exact ⟨rfl,rfl⟩
end
section
variable [A8]
set_option maxRecDepth 100000
def YO:Ae := .seq (.ops [po_ 2 (.mov (ci_ 0))] [0])
 (.seq (.ops [so_ 3 (.alloc (.val (.int .i64 ((0:Nat):Int))))] [0,3])
 (.seq (.block 0 (.seq (.ops [mv_ 5 0,po_ 6 (.eqN 1 (.t 5) (.c .nilIface) false),mv_ 4 6] [0,3,4])
 (.cond (.t 4)
 (.seq (.ops [po_ 2 (.mov (ci_ 0))] [2])
  (.ret))
 (.seq (.ops [mv_ 8 0,po_ 9 (.iface 59 (.t 3)),so_ 10 (.call 20 [.t 8,.t 9]),mv_ 7 10] [3,7])
  (.cond (.t 7)
  (.seq (.ops [po_ 11 (.load false 1 (.t 3)),mv_ 2 11] [2])
   (.ret))
  (.skip))))))
 (.seq (.ops [po_ 2 (.mov (.c (.int .i64 (-1))))] [2])
 (.ret))))
def Zd:List VR:=[.tmp 2]
theorem Aei:Tryz.f10.body.bind (trC Tryz.prog Tryz.f10.ntmps)=some (er YO):=by kernel_rfl
theorem AeC:trR Tryz.prog Tryz.f10.results.toList=some Zd:=by kernel_rfl
def Aa8:=Ac YO.eq_1
theorem Abs {K:TV→Prop} {e:Env} {H:List Ob}:res Zd e H K=res [.tmp 2] e H K:=Aa rfl
def Ui:=(aI_ @Aa8 @Abs)
def XW:=Gs 12 Tryz.func10 Aei AeC rfl
def OU:Ae := .seq (.seq (.ops [mv_ 36 8,mv_ 37 6,po_ 38 (.lenV (.t 37)),po_ 39 (.bin 3 .lss (.t 36) (.t 38))] [6,7,8,39])
 (.cond (.t 39)
 (.skip)
 (.exit 0)))
 (.seq (.block 1 (.ops [mv_ 42 6,mv_ 43 8,mv_ 44 6,mv_ 45 8,po_ 46 (.idxA 1 (.t 44) (.t 45)),po_ 47 (.load false 1 (.t 46)),po_ 48 (.bin 5 .xor (.t 47) (.c (.int .u8 ((85:Nat):Int)))),po_ 49 (.idxA 1 (.t 42) (.t 43)),⟨none,.s (.store 1 (.t 49) (.t 48)),none⟩] [6,7,8]))
 (.ops [mv_ 40 8,po_ 41 (.bin 3 .add (.t 40) (ci_ 1)),mv_ 8 41] [6,7,8]))
def OQ:Ae := .block 0 (.loop [6,7,8] OU)
def O7:Ae := .seq (.ops [mv_ 50 7,mv_ 4 50] [4])
 (.ret)
def O9:Ae := .seq (.seq (.ops [po_ 8 (.mov (ci_ 0))] [6,7,8])
 OQ)
 O7
def Ot:Ae := .seq (.ops [mv_ 20 7,mv_ 21 20,⟨some 22,.p (.mov (.t 6)),some ⟨21,true⟩⟩,⟨some 23,.p (.mov (.t 5)),some ⟨21,true⟩⟩,⟨some 24,.p (.idxA 1 (.t 22) (.t 23)),some ⟨21,true⟩⟩,⟨some 25,.p (.load false 1 (.t 24)),some ⟨21,true⟩⟩,⟨some 26,.p (.bin 5 .eql (.t 25) (.c (.int .u8 ((71:Nat):Int)))),some ⟨21,true⟩⟩,po_ 27 (.pick (.t 21) (.t 26) (.c (.bool false))),mv_ 28 27,⟨some 29,.p (.mov (.t 6)),some ⟨28,true⟩⟩,⟨some 30,.p (.mov (.t 5)),some ⟨28,true⟩⟩,⟨some 31,.p (.bin 3 .add (.t 30) (ci_ 1)),some ⟨28,true⟩⟩,⟨some 32,.p (.idxA 1 (.t 29) (.t 31)),some ⟨28,true⟩⟩,⟨some 33,.p (.load false 1 (.t 32)),some ⟨28,true⟩⟩,⟨some 34,.p (.bin 5 .eql (.t 33) (.c (.int .u8 ((72:Nat):Int)))),some ⟨28,true⟩⟩,po_ 35 (.pick (.t 28) (.t 34) (.c (.bool false))),mv_ 7 35] [6,7])
 O9
def Oe:Ae := .seq (.ops [mv_ 15 6,mv_ 16 5,po_ 17 (.slV 1 (.t 15) none (some (.t 16))),mv_ 18 1,so_ 19 (.call 9 [.t 17,.t 18]),mv_ 7 19] [5,6,7])
 Ot
def NY:Ae := .seq (.ops [mv_ 11 0,mv_ 12 5,po_ 13 (.bin 3 .add (.t 12) (ci_ 2)),po_ 14 (.slV 1 (.t 11) none (some (.t 13))),mv_ 6 14] [1,5,6])
 Oe
def Oa:Ae := .seq (.ops [mv_ 9 1,po_ 10 (.lenV (.t 9)),mv_ 5 10] [0,1,5])
 NY
def VA:Ae := .seq (.ops [po_ 4 (.mov (.c (.bool false)))] [0,1])
 Oa
def VP:List VR:=[.tmp 4]
theorem AaR:Tryz.f7.body.bind (trC Tryz.prog Tryz.f7.ntmps)=some (er VA):=by kernel_rfl
theorem Abg:trR Tryz.prog Tryz.f7.results.toList=some VP:=by kernel_rfl
def Ub:=Ac OU.eq_1
def Ve:=Ac OQ.eq_1
def UY:=Ac O7.eq_1
def UQ:=Ac O9.eq_1
def Vs:=Ac Ot.eq_1
def Uk:=Ac Oe.eq_1
def Uw:=Ac NY.eq_1
def Uo:=Ac Oa.eq_1
def Yy:=Ac VA.eq_1
theorem YF {K:TV→Prop} {e:Env} {H:List Ob}:res VP e H K=res [.tmp 4] e H K:=Aa rfl
def IX:=(aI_ (aI_ (aI_ (aI_ @Ub @Ve) (aI_ @UY @UQ)) (aI_ (aI_ @Vs @Uk) (aI_ @Uw @Uo))) (aI_ @Yy @YF))
def Zm:=Gs 51 Tryz.func7 AaR Abg rfl
def QA:Ae := .seq (.block 1 (.seq (.draw 4 [mv_ 17 0,mv_ 18 5,po_ 19 (.idxA 1 (.t 17) (.t 18)),po_ 20 (.load false 1 (.t 19)),mv_ 21 1,mv_ 22 5,po_ 23 (.idxA 1 (.t 21) (.t 22)),po_ 24 (.load false 1 (.t 23)),po_ 25 (.bin 5 .neq (.t 20) (.t 24))] [0,1,5,25])
 (.cond (.t 25)
 (.seq (.ops [po_ 4 (.mov (.c (.bool false)))] [4])
  (.ret))
 (.skip))))
 (.ops [mv_ 15 5,po_ 16 (.bin 3 .add (.t 15) (ci_ 1)),mv_ 5 16] [0,1,5])
def QC:Ae := .seq (.seq (.ops [mv_ 11 5,mv_ 12 0,po_ 13 (.lenV (.t 12)),po_ 14 (.bin 3 .lss (.t 11) (.t 13))] [0,1,5,14])
 (.cond (.t 14)
 (.skip)
 (.exit 0)))
 QA
def Qi:Ae := .block 0 (.loop [0,1,5] QC)
def Qy:Ae := .seq (.ops [po_ 4 (.mov (.c (.bool true)))] [4])
 (.ret)
def QM:Ae := .seq (.seq (.ops [po_ 5 (.mov (ci_ 0))] [0,1,5])
 Qi)
 Qy
def Qr:Ae := .seq (.seq (.ops [mv_ 6 0,po_ 7 (.lenV (.t 6)),mv_ 8 1,po_ 9 (.lenV (.t 8)),po_ 10 (.bin 3 .neq (.t 7) (.t 9))] [0,1,10])
 (.cond (.t 10)
 (.seq (.ops [po_ 4 (.mov (.c (.bool false)))] [4])
  (.ret))
 (.skip)))
 QM
def XB:Ae := .seq (.ops [po_ 4 (.mov (.c (.bool false)))] [0,1])
 Qr
def Xb:List VR:=[.tmp 4]
theorem Aci:Tryz.f9.body.bind (trC Tryz.prog Tryz.f9.ntmps)=some (er XB):=by kernel_rfl
theorem AcC:trR Tryz.prog Tryz.f9.results.toList=some Xb:=by kernel_rfl
def WG:=Ac QA.eq_1
def Wi:=Ac QC.eq_1
def WO:=Ac Qi.eq_1
def Wy:=Ac Qy.eq_1
def WH:=Ac QM.eq_1
def Wu:=Ac Qr.eq_1
def Zp:=Ac XB.eq_1
theorem Zn {K:TV→Prop} {e:Env} {H:List Ob}:res Xb e H K=res [.tmp 4] e H K:=Aa rfl
def IA:=(aI_ (aI_ (aI_ @WG @Wi) (aI_ @WO @Wy)) (aI_ (aI_ @WH @Wu) (aI_ @Zp @Zn)))
def Aa6:=Gs 26 Tryz.func9 Aci AcC rfl
end
section
open Go.RowKit
variable [A8] [BR]
theorem KE.refl {F:Nat→Prop} {w:World} (h:∀ b,F b→b<w.heap.size):KE F w F w:=⟨rfl,rfl,rfl,Nat.le_refl _,fun _ _=>rfl,fun _ h=>h,fun _ _ h=>h,h⟩
theorem KE.alloc {F F':Nat→Prop} {w w':World} (h:KE F w F' w') (o:Obj):KE F w F' (w'.alloc o) :=
 ⟨h.os,h.tape,h.output,by have:=h.size; simp; omega,fun b hb=>(BV w' o (Nat.lt_of_lt_of_le hb h.size)).trans (h.same b hb),h.keepF,h.oldF,fun b hb=>by have:=h.ltF b hb; simp; omega⟩
abbrev eno (n:Int):TV := .ifc 31 (i64 n)
theorem AkC {n:Int} {id ver:Nat} {p:List (Nat×Nat)} {x x':TV} {H:List Ob} {K:TV→List Ob→Prop} (ho:H[id]?=some (.obj ver x)) (hs2:Ie p x (i64 n)=some x') (hk:K (tb true) (H.set id (.obj ver x'))) :
  Aq Tryz.prog 20 [eno n,.ifc 59 (.op id ver p)] H K:=by
 intro β F w vs hs hv
 obtain ⟨u,us,rfl,h1,h2⟩:=Bh.cons.1 hv
 obtain ⟨u2,us2,rfl,h3,h4⟩:=Bh.cons.1 h2
 rw [Bh.nil] at h4; subst h4
 -- the two arguments
 have e1:u = .iface 31 (.int .i64 n):=by
  rcases h1 with h | h | ⟨xs0,h,rfl⟩
  ·cases h
  ·cases h
  ·rw [Am] at h
   obtain ⟨v,rfl,vs,h,rfl⟩:=h
   rw [Am] at h
   obtain ⟨rfl,_⟩:=h
   rfl
 obtain ⟨b,o,hbo,rfl⟩:∃ b o,β id ver=some (b,o)∧u2 = .iface 59 (.pointer (some ⟨b,o+BZ p,none⟩)):=by
  rcases h3 with h | h | ⟨xs0,h,rfl⟩
  ·cases h
  ·cases h
  ·rw [Am] at h
   obtain ⟨v,rfl,vs,h,rfl⟩:=h
   rw [Am] at h
   obtain ⟨_,b,o,hb,rfl⟩:=h
   exact ⟨b,o,hb,rfl⟩
 subst e1
 have hgl:=hs.glob.at BR.k
 have hg:w.cell? ⟨0,0,none⟩=some (.iface 112 (.agg #[.pointer (some ⟨10,25,none⟩)])):=hgl 0 _ rfl
 have hrow:∀ c w,Am c w (i64 n) [.int .i64 n]:=fun c w=>by rw [Am]; exact ⟨rfl,rfl⟩
 obtain ⟨_,_,ht⟩:=hs.store ho hbo hs2 (hrow _ _)
 obtain ⟨t1,t2⟩:=ht 0 (by simp)
 obtain ⟨old,hold⟩:=Option.isSome_iff_exists.1 t1
 refine (Ap1 n ⟨b,o+BZ p,none⟩ old w hg hold t2).mono ?_
 rintro e w' ⟨rfl,rfl⟩
 have hst:=((((KE.refl (F:=F) hs.lt).alloc (.cells #[.pointer (some ⟨b,o+BZ p,none⟩)] 59)).alloc (.cells #[.pointer (some ⟨10,59,none⟩),.pointer (some ⟨w.heap.size,0,none⟩),.int .u64 150] 89)).alloc (.cells #[.pointer (some ⟨10,59,none⟩),.pointer (some ⟨w.heap.size,0,none⟩),.int .u64 150] 89)).alloc (.cells #[.int .i64 n] 31)
 obtain ⟨k1,k2,_⟩:=(hst.sim hs).store ho hbo hs2 (hrow _ _)
 exact ⟨_,tb true,β,_,F,rfl,hk,k1,hst.later.trans k2,Rep.of_val⟩
theorem A4p {n:Int}:CE Tryz.prog 10 [eno n] (fun x=>x=i64 n):=by
 refine Aq.toPureV (XW (by simp) ?_)
 simp -dsimp (disch:=first | assumption | omega) only [↓Ai,Ad,Ag,Af,eq_self,Nat.reduceEqDiff,↓reduceIte,reduceCtorEq,↓Ui]
 refine AkC (x:=i64 ((0:Nat):Int)) (x':=i64 n) rfl (by rw [D8]; rfl) ?_
 simp -dsimp (disch:=first | assumption | omega) only [↓Ai,Ad,Ag,Af,eq_self,Nat.reduceEqDiff,↓reduceIte,reduceCtorEq,↓Ui]
theorem Ah2:CE Tryz.prog 10 [.val .nilIface] (fun x=>x=i64 ((0:Nat):Int)):=by
 refine Aq.toPureV (XW (by simp) ?_)
 simp -dsimp (disch:=first | assumption | omega) only [↓Ai,Ad,Ag,Af,eq_self,Nat.reduceEqDiff,↓reduceIte,reduceCtorEq,↓Ui]
end
section
open Go.RowKit
variable [A8] [Aj] [AU] [A7] [AL] [Ih]
def hz (h:HZ):TV := .agg [i64 (h.at_:Int),i64 (h.to_:Int),.sl 2 (h.es.map ez)]
theorem Aqk {h:HZ}:hz h = .agg [i64 (h.at_:Int),i64 (h.to_:Int),.sl 2 (h.es.map ez)]:=by unfold hz; rfl
theorem Aer {l:List HZ} {x:HZ}:l.map hz++[TV.agg [i64 (x.at_:Int),i64 (x.to_:Int),.sl 2 (x.es.map ez)]]=(l++[x]).map hz:=by simp [hz]
def RdA (p:List UInt8) (x:TV):Prop:=(∀ hs,Yn p 0 0=some hs→x = .tup [.sl 3 (hs.map hz),.val .nilIface])∧(Yn p 0 0=none→x = .tup [.val (.slice none 0 0),eno 90])
theorem AoM (p:List UInt8) (hp:p.length≤900000):CE Tryz.prog 14 [slB p] (RdA p):=by
 refine Aq.toPureV (Abc (by simp) ?_)
 simp -dsimp (disch:=first | assumption | omega) only [↓Ai,Ad,Ag,Af,eq_self,Nat.reduceEqDiff,↓reduceIte,reduceCtorEq,↓DU]
 refine D6 (fun q e H=>∃ (hs:List HZ) (r:List UInt8) (v en:Nat) (sh:Int),q=r.length∧Yn p 0 0=(Yn r en sh).map (hs ++ ·)∧hs.length+r.length≤p.length∧en≤1001000000 ∧ -((p.length:Int) - r.length)≤sh∧sh≤(p.length:Int) - r.length ∧
  e=[(4,.op 0 0 []),(5,.os 3 1 v [] 0 hs.length hs.length),(6,i64 (en:Int)),(7,i64 sh)]∧H=[.obj 0 (.agg [ts r,tb false]),.obj v (.arr hs.length 3 (hs.map hz))]) p.length ?_ ?_
 ·exact ⟨[],p,0,0,0,rfl,by cases Yn p 0 0<;>simp,by simp,by omega,by omega,by omega,rfl,rfl⟩
 ·rintro q e H ⟨hs,r,v,en,sh,rfl,hh,hlen,hen,hs0,hs1,rfl,rfl⟩
  by_cases hr:r=[]
  ·subst hr
   rw [ZM] at hh
   simp -dsimp (disch:=first | assumption | omega) only [↓Ai,Ad,Ag,Af,eq_self,Nat.reduceEqDiff,↓reduceIte,↓DU]
   refine ⟨fun hs' h => ?_,fun h => ?_⟩
   ·rw [hh] at h; cases h; simp
   ·rw [hh] at h; cases h
  ·simp -dsimp (disch:=first | assumption | omega) only [↓Ai,Ad,Ag,Af,eq_self,Nat.reduceEqDiff,↓reduceIte,↓DU,hr]
   refine Rh (Ard (s:=r) (id:=0) (v:=0) (by omega) rfl fun a b es r2 β' G hβ hv hr2 hes => ?_)
   have hC:∀ (o1 o2:Ob) (G:List Ob) (o:Ob),(o1::o2::(G++[o]))[G.length+1+1]?=some o:=fun o1 o2 G o=>by simp
   have hCs:∀ (o1 o2:Ob) (G:List Ob) (o Y:Ob),(o1::o2::(G++[o])).set (G.length+1+1) Y=o1::o2::(G++[Y]):=fun o1 o2 G o Y=>by simp
   cases hu:IP r with
   | none =>
    rw [hu] at hβ
    obtain rfl:β'=true:=hβ
    rw [AdP hr hu] at hh
    simp -dsimp (disch:=first | assumption | omega) only [↓Ai,Ad,Ag,Af,eq_self,Nat.reduceEqDiff,↓reduceIte,Nat.reduceAdd,↓DU]
    exact ⟨fun hs' h=>(by rw [hh] at h; cases h),fun _=>rfl⟩
   | some t =>
    obtain ⟨x,r0⟩:=t
    obtain ⟨rfl,rfl,rfl,rfl⟩:=hv x r0 hu
    rw [hu] at hβ
    obtain rfl:β'=false:=hβ
    rw [AcS hr hu] at hh
    have hl:=XN hu
    have hzn:=Am8 x.es
    have hzm:=Amz x.es
    by_cases hb1:(x.at_:Int)<(en:Int)
    ·have hn:Yn p 0 0=none:=by rw [hh,if_pos (.inl (by omega))]; rfl
     simp -dsimp (disch:=first | assumption | omega) only [↓Ai,Ad,Ag,Af,eq_self,Nat.reduceEqDiff,↓reduceIte,Nat.reduceAdd,↓DU,hC,hb1]
     exact ⟨fun hs' h=>(by rw [hn] at h; cases h),fun _=>rfl⟩
    by_cases hb2:(x.to_:Int)=(x.at_:Int)+sh
    case neg =>
     have hn:Yn p 0 0=none:=by rw [hh,if_pos (.inr hb2)]; rfl
     simp -dsimp (disch:=first | assumption | omega) only [↓Ai,Ad,Ag,Af,eq_self,Nat.reduceEqDiff,↓reduceIte,Nat.reduceAdd,↓DU,hC,hCs,hb1,hb2]
     exact ⟨fun hs' h=>(by rw [hn] at h; cases h),fun _=>rfl⟩
    rw [if_neg (by intro h; exact h.elim (fun h=>hb1 (by omega)) fun h=>h hb2)] at hh
    have hbt:((x.to_:Int)=(x.at_:Int)+sh)=True:=eq_true hb2
    simp -dsimp (disch:=first | assumption | omega) only [↓Ai,Ad,Ag,Af,eq_self,Nat.reduceEqDiff,↓reduceIte,Nat.reduceAdd,↓DU,hC,hCs,hb1,hbt]
    refine Rh ((TK x.es (x.at_:Int) (x.to_:Int) (by omega)).calls (by rfl) fun y hy => ?_)
    subst hy
    have hD:∀ (G:List Ob) (a b:Ob),(G++[a]++[b])[G.length+1]?=some b:=fun G a b=>by simp
    have hl1:∀ (x:TV),[x].length=1:=fun x=>rfl
    simp -dsimp (disch:=first | assumption | omega) only [↓Ai,Ad,Ag,Af,eq_self,Nat.reduceEqDiff,↓reduceIte,Nat.reduceAdd,Nat.reduceLeDiff,↓DU,hC,hD,WU,hl1,Aer]
    refine CJ r2.length 2 (by omega) (by simp) rfl ?_ ⟨hs++[x],r2,v+1,x.at_+zN x.es,sh+zM x.es - zN x.es,rfl,?_,?_,by omega,by omega,by omega,?_,?_⟩
    ·show (EW 2 _ && (EW 2 _ && true))=true
     simp [EW,Dl,Jp]
    ·rw [hh]
     cases Yn r2 (x.at_+zN x.es) (sh+zM x.es - zN x.es)<;>simp
    ·simp; omega
    ·simp
     rfl
    ·simp
end
section
def Asn:Nat→List HZ→Prop
 | _,[]=>True
 | en,h::hs=>en≤h.at_∧Asn (h.at_+zN h.es) hs
theorem AcV {g:EZ}:∀ {l:List EZ},g∈l→g.2.length≤(l.flatMap (·.2)).length
 | a::l,h=>by
  rw [List.flatMap_cons,List.length_append]
  rcases List.mem_cons.1 h with rfl | h
  ·omega
  ·have:=AcV h; omega
theorem Ady:∀ (k:Nat) (s:List UInt8) (en:Nat) (sh:Int) (hs:List HZ),s.length≤k→Yn s en sh=some hs→Asn en hs∧(hs.flatMap (·.es)).length≤s.length∧hs.length≤s.length∧∀ h∈hs,h.at_<1000000000∧∀ e∈h.es,e.2.length≤s.length∧e.2≠[]∧(e.1=0∨e.1=1∨e.1=2)
 | k,s,en,sh,hs,hk,h=>by
  by_cases h0:s=[]
  ·subst h0
   rw [ZM] at h
   cases h
   exact ⟨trivial,by simp,by simp,by simp⟩
  ·cases hu:IP s with
   | none=>rw [AdP h0 hu] at h; cases h
   | some t =>
    obtain ⟨x,r⟩:=t
    rw [AcS h0 hu] at h
    split at h
    ·cases h
    ·rename_i hc
     obtain ⟨gs,hg,rfl⟩:=Option.map_eq_some_iff.1 h
     have hl:=XN hu
     match k,hk with
     | 0,hk=>exact absurd hl.1 (by omega)
     | k+1,hk =>
      obtain ⟨i1,i2,i3,i4⟩:=Ady k r _ _ gs (by omega) hg
      refine ⟨⟨by omega,i1⟩,?_,by simp; omega,?_⟩
      ·rw [List.flatMap_cons,List.length_append]; omega
      ·intro y hy
       rcases List.mem_cons.1 hy with rfl | hy
       ·refine ⟨hl.2.1,fun e he=>⟨?_,hl.2.2.2.2.2 e he⟩⟩
        have:=AcV he
        omega
       ·obtain ⟨j1,j2⟩:=i4 y hy
        refine ⟨j1,fun e he => ?_⟩
        obtain ⟨a,b,c⟩:=j2 e he
        exact ⟨by omega,b,c⟩
theorem AlI {x:List (List UInt8)}:∀ {es:List EZ} {a a':Nat} {o:List (List UInt8)},apE x a es=some (o,a')→a'=a+zN es∧o.length≤es.length∧(a≤x.length→a'≤x.length)∧∀ l∈o,∃ e∈es,e.2=l
 | [],a,a',o,h=>by
  rw [apE] at h
  cases h
  exact ⟨by simp [zN],by simp,id,by simp⟩
 | e::es,a,a',o,h=>by
  rw [apE] at h
  split at h
  ·cases h
  ·rename_i hc
   obtain ⟨⟨o2,a2⟩,h2,h3⟩:=Option.map_eq_some_iff.1 h
   obtain ⟨j1,j2,j3,j4⟩:=AlI h2
   cases h3
   have hz:zN (e::es)=(if e.1=2 then 0 else 1)+zN es:=by
    have:=AhJ [e] es
    rw [Alt] at this
    exact this
   refine ⟨?_,?_,?_,?_⟩
   ·simp only
    rw [hz,j1]
    by_cases h2:e.1=2
    ·simp [h2]
    ·simp [h2]; omega
   ·simp only
    split<;>simp<;>omega
   ·intro ha
    simp only
    refine j3 ?_
    by_cases h2:e.1=2
    ·simp [h2]; exact ha
    ·simp [h2]
     have hx:x[a]?=some e.2:=by
      by_cases hx:x[a]?=some e.2
      ·exact hx
      ·exact absurd ⟨h2,hx⟩ hc
     have:=(List.getElem?_eq_some_iff.1 hx).1
     omega
   ·intro l hl
    simp only at hl
    have tail:l∈o2→∃ e'∈e::es,e'.2=l:=fun hl=>by
     obtain ⟨e',he,rfl⟩:=j4 l hl
     exact ⟨e',List.mem_cons_of_mem _ he,rfl⟩
    split at hl
    ·rcases List.mem_cons.1 hl with rfl | hl
     ·exact ⟨e,by simp,rfl⟩
     ·exact tail hl
    ·exact tail hl
end
section
variable [A8]
set_option maxRecDepth 100000
def O0:Ae := .ops [mv_ 4 7] [3,4]
def O8:Ae := .block 1 (.ops [po_ 8 (.load false 1 (.t 3)),mv_ 9 4,po_ 10 (.b2s (.t 9)),⟨some 11,.s (.bslice 1 1 (.val (.string (str []))) [⟨0,.t 10⟩]),none⟩,so_ 12 (.app 1 16 9 (.t 8) (.t 11)),⟨none,.s (.store 1 (.t 3) (.t 12)),none⟩] [])
def OH:Ae := .seq (.ops [po_ 13 (.load false 1 (.t 3)),mv_ 2 13] [2])
 (.ret)
def VV:Ae := .seq (.ops [po_ 2 (.mov (.c (.slice none 0 0)))] [0,2])
 (.seq (.ops [so_ 3 (.alloc (.val (.slice none 0 0)))] [0,2,3])
 (.seq (.seq (.ops [mv_ 5 0,so_ 6 (.call 29 [.t 5])] [2,3,6])
 (.block 0 (.ownB 3 [] 1 (.rfunc (.t 6) [7] O0 O8))))
 OH))
def VT:List VR:=[.tmp 2]
theorem Abm:Tryz.f15.body.bind (trC Tryz.prog Tryz.f15.ntmps)=some (er VV):=by kernel_rfl
theorem Aay:trR Tryz.prog Tryz.f15.results.toList=some VT:=by kernel_rfl
def Ug:=Ac O0.eq_1
def Uf:=Ac O8.eq_1
def Ue:=Ac OH.eq_1
def Yr:=Ac VV.eq_1
theorem Yc {K:TV→Prop} {e:Env} {H:List Ob}:res VT e H K=res [.tmp 2] e H K:=Aa rfl
def OG:=(aI_ (aI_ (aI_ @Ug @Uf) (aI_ @Ue @Yr)) @Yc)
def Z9:=Gs 14 Tryz.func15 Abm Aay rfl
def Px:Ae := .seq (.seq (.draw 12 [mv_ 18 5,po_ 19 (.lenV (.t 18)),po_ 20 (.bin 3 .gtr (.t 19) (ci_ 0)),mv_ 21 20,⟨some 22,.p (.mov (.t 6)),some ⟨21,true⟩⟩,⟨some 23,.p (.lenV (.t 22)),some ⟨21,true⟩⟩,⟨some 24,.p (.bin 3 .gtr (.t 23) (ci_ 0)),some ⟨21,true⟩⟩,po_ 25 (.pick (.t 21) (.t 24) (.c (.bool false))),mv_ 26 25,⟨some 27,.p (.mov (.t 5)),some ⟨26,true⟩⟩,⟨some 28,.p (.idxA 1 (.t 27) (ci_ 0)),some ⟨26,true⟩⟩,⟨some 29,.p (.load false 1 (.t 28)),some ⟨26,true⟩⟩,⟨some 30,.p (.mov (.t 6)),some ⟨26,true⟩⟩,⟨some 31,.p (.idxA 1 (.t 30) (ci_ 0)),some ⟨26,true⟩⟩,⟨some 32,.p (.load false 1 (.t 31)),some ⟨26,true⟩⟩,⟨some 33,.p (.bin 9 .eql (.t 29) (.t 32)),some ⟨26,true⟩⟩,po_ 34 (.pick (.t 26) (.t 33) (.c (.bool false)))] [0,1,5,6,7,8,34])
 (.cond (.t 34)
 (.skip)
 (.exit 0)))
 (.block 1 (.seq (.ops [mv_ 35 8,mv_ 36 5,po_ 37 (.idxA 1 (.t 36) (ci_ 0)),po_ 38 (.load false 1 (.t 37)),so_ 39 (.callv (.t 35) [.c (.int .i64 ((0:Nat):Int)),.t 38])] [0,1,5,6,7,8])
 (.draw 4 [mv_ 40 5,po_ 41 (.slV 1 (.t 40) (some (ci_ 1)) none),mv_ 42 6,po_ 43 (.slV 1 (.t 42) (some (ci_ 1)) none),mv_ 5 41,mv_ 6 43] [0,1,5,6,7,8])))
def Oy:Ae := .seq (.ops [mv_ 101 8,mv_ 102 5,mv_ 103 11,po_ 104 (.idxA 1 (.t 102) (.t 103)),po_ 105 (.load false 1 (.t 104)),so_ 106 (.callv (.t 101) [.c (.int .i64 ((0:Nat):Int)),.t 105])] [5,6,7,8,9,10,11,12])
 (.seq (.ops [mv_ 107 11,po_ 108 (.bin 3 .add (.t 107) (ci_ 1)),mv_ 11 108] [5,6,7,8,9,10,11,12])
 (.ops [mv_ 109 12,po_ 110 (.bin 3 .add (.t 109) (ci_ 1)),mv_ 12 110] [5,6,7,8,9,10,11,12]))
def OM:Ae := .draw 16 [mv_ 116 11,mv_ 117 5,po_ 118 (.lenV (.t 117)),po_ 119 (.bin 3 .lss (.t 116) (.t 118)),mv_ 120 119,⟨some 121,.p (.mov (.t 9)),some ⟨120,true⟩⟩,⟨some 122,.p (.mov (.t 121)),some ⟨120,true⟩⟩,⟨some 123,.p (.load true 2 (.t 10)),some ⟨122,false⟩⟩,⟨some 124,.p (.mov (.t 11)),some ⟨122,false⟩⟩,⟨some 125,.p (.bin 3 .add (.t 124) (ci_ 1)),some ⟨122,false⟩⟩,⟨some 126,.p (.mov (.t 12)),some ⟨122,false⟩⟩,⟨some 127,.s (.call 23 [.t 123,.t 125,.t 126]),some ⟨122,false⟩⟩,⟨some 128,.p (.load true 2 (.t 10)),some ⟨122,false⟩⟩,⟨some 129,.p (.mov (.t 11)),some ⟨122,false⟩⟩,⟨some 130,.p (.mov (.t 12)),some ⟨122,false⟩⟩,⟨some 131,.p (.bin 3 .add (.t 130) (ci_ 1)),some ⟨122,false⟩⟩,⟨some 132,.s (.call 23 [.t 128,.t 129,.t 131]),some ⟨122,false⟩⟩,⟨some 133,.p (.bin 21 .geq (.t 127) (.t 132)),some ⟨122,false⟩⟩,⟨some 134,.p (.pick (.t 122) (.c (.bool true)) (.t 133)),some ⟨120,true⟩⟩,po_ 135 (.pick (.t 120) (.t 134) (.c (.bool false))),mv_ 111 135] [5,6,7,8,9,10,11,12,111]
def NT:Ae := .cond (.t 111)
 (.skip)
 OM
def NQ:Ae := .seq (.ops [mv_ 136 8,mv_ 137 5,mv_ 138 11,po_ 139 (.idxA 1 (.t 137) (.t 138)),po_ 140 (.load false 1 (.t 139)),so_ 141 (.callv (.t 136) [.c (.int .i64 ((1:Nat):Int)),.t 140])] [5,6,7,8,9,10,11,12])
 (.ops [mv_ 142 11,po_ 143 (.bin 3 .add (.t 142) (ci_ 1)),mv_ 11 143] [5,6,7,8,9,10,11,12])
def Om:Ae := .seq (.ops [mv_ 67 8,mv_ 68 6,mv_ 69 12,po_ 70 (.idxA 1 (.t 68) (.t 69)),po_ 71 (.load false 1 (.t 70)),so_ 72 (.callv (.t 67) [.c (.int .i64 ((2:Nat):Int)),.t 71])] [5,6,7,8,9,10,11,12])
 (.ops [mv_ 73 12,po_ 74 (.bin 3 .add (.t 73) (ci_ 1)),mv_ 12 74] [5,6,7,8,9,10,11,12])
def OI:Ae := .cond (.t 111)
 NQ
 Om
def Ou:Ae := .seq (.seq (.ops [mv_ 112 12,mv_ 113 6,po_ 114 (.lenV (.t 113)),po_ 115 (.bin 3 .eql (.t 112) (.t 114)),mv_ 111 115] [5,6,7,8,9,10,11,12,111])
 NT)
 OI
def Pj:Ae := .cond (.t 75)
 Oy
 Ou
def LK:Ae := .block 3 (.block 4 (.seq (.draw 20 [mv_ 76 9,po_ 77 (.un .not (.t 76)),mv_ 78 77,⟨some 79,.p (.mov (.t 11)),some ⟨78,true⟩⟩,⟨some 80,.p (.mov (.t 5)),some ⟨78,true⟩⟩,⟨some 81,.p (.lenV (.t 80)),some ⟨78,true⟩⟩,⟨some 82,.p (.bin 3 .lss (.t 79) (.t 81)),some ⟨78,true⟩⟩,po_ 83 (.pick (.t 78) (.t 82) (.c (.bool false))),mv_ 84 83,⟨some 85,.p (.mov (.t 12)),some ⟨84,true⟩⟩,⟨some 86,.p (.mov (.t 6)),some ⟨84,true⟩⟩,⟨some 87,.p (.lenV (.t 86)),some ⟨84,true⟩⟩,⟨some 88,.p (.bin 3 .lss (.t 85) (.t 87)),some ⟨84,true⟩⟩,po_ 89 (.pick (.t 84) (.t 88) (.c (.bool false))),mv_ 90 89,⟨some 91,.p (.mov (.t 5)),some ⟨90,true⟩⟩,⟨some 92,.p (.mov (.t 11)),some ⟨90,true⟩⟩,⟨some 93,.p (.idxA 1 (.t 91) (.t 92)),some ⟨90,true⟩⟩,⟨some 94,.p (.load false 1 (.t 93)),some ⟨90,true⟩⟩,⟨some 95,.p (.mov (.t 6)),some ⟨90,true⟩⟩,⟨some 96,.p (.mov (.t 12)),some ⟨90,true⟩⟩,⟨some 97,.p (.idxA 1 (.t 95) (.t 96)),some ⟨90,true⟩⟩,⟨some 98,.p (.load false 1 (.t 97)),some ⟨90,true⟩⟩,⟨some 99,.p (.bin 9 .eql (.t 94) (.t 98)),some ⟨90,true⟩⟩,po_ 100 (.pick (.t 90) (.t 99) (.c (.bool false))),mv_ 75 100] [5,6,7,8,9,10,11,12,75])
 Pj))
def LX:Ae := .seq (.seq (.ops [mv_ 57 11,mv_ 58 5,po_ 59 (.lenV (.t 58)),po_ 60 (.bin 3 .lss (.t 57) (.t 59)),mv_ 61 60,⟨some 62,.p (.mov (.t 12)),some ⟨61,false⟩⟩,⟨some 63,.p (.mov (.t 6)),some ⟨61,false⟩⟩,⟨some 64,.p (.lenV (.t 63)),some ⟨61,false⟩⟩,⟨some 65,.p (.bin 3 .lss (.t 62) (.t 64)),some ⟨61,false⟩⟩,po_ 66 (.pick (.t 61) (.c (.bool true)) (.t 65))] [5,6,7,8,9,10,11,12,66])
 (.cond (.t 66)
 (.skip)
 (.exit 2)))
 LK
def Ea:Ae := .seq (.ops [po_ 144 (.load false 1 (.t 7)),mv_ 4 144] [4])
 (.ret)
def Nb:Ae := .seq (.block 2 (.ownB 7 [] 2 (.loop [5,6,7,8,9,10,11,12] LX)))
 Ea
def D9:Ae := .seq (.ops [po_ 11 (.mov (ci_ 0)),po_ 12 (.mov (ci_ 0))] [5,6,7,8,9,10,11,12])
 Nb
def MS:Ae := .seq (.seq (.ops [mv_ 52 9,po_ 53 (.un .not (.t 52))] [5,6,7,8,9,10,53])
 (.cond (.t 53)
 (.ops [mv_ 54 5,mv_ 55 6,so_ 56 (.call 22 [.t 54,.t 55]),⟨none,.s (.store 2 (.t 10) (.t 56)),none⟩] [5,6,7,8,9,10])
 (.skip)))
 D9
def G6:Ae := .seq (.ops [so_ 10 (.alloc (.agg [.val (.int .i64 ((0:Nat):Int)),.val (.slice none 0 0)]))] [5,6,7,8,9,10])
 MS
def G5:Ae := .seq (.ops [mv_ 44 0,so_ 45 (.call 15 [.t 44]),po_ 46 (.lenV (.t 45)),mv_ 47 1,so_ 48 (.call 15 [.t 47]),po_ 49 (.lenV (.t 48)),po_ 50 (.max (.t 46) (.t 49)),po_ 51 (.bin 3 .gtr (.t 50) (ci_ 2000)),mv_ 9 51] [5,6,7,8,9])
 G6
def Na:Ae := .seq (.block 0 (.ownB 7 [] 2 (.loop [0,1,5,6,7,8] Px)))
 G5
def Me:Ae := .seq (.ops [po_ 17 (.mkf (.func 21) [] [.t 7]),mv_ 8 17] [0,1,5,6,7,8])
 Na
def MX:Ae := .seq (.ops [so_ 7 (.alloc (.val (.slice none 0 0)))] [0,1,5,6,7])
 Me
def MN:Ae := .seq (.ops [mv_ 13 0,so_ 14 (.call 15 [.t 13]),mv_ 15 1,so_ 16 (.call 15 [.t 15]),mv_ 5 14,mv_ 6 16] [0,1,5,6])
 MX
def OL:Ae := .seq (.ops [po_ 4 (.mov (.c (.slice none 0 0)))] [0,1])
 MN
def CP:List VR:=[.tmp 4]
theorem Abh:Tryz.f11.body.bind (trC Tryz.prog Tryz.f11.ntmps)=some (er OL):=by kernel_rfl
theorem Aa5:trR Tryz.prog Tryz.f11.results.toList=some CP:=by kernel_rfl
def D5:=Ac Px.eq_1
def Un:=Ac Oy.eq_1
def Vf:=Ac OM.eq_1
def UK:=Ac NT.eq_1
def Uc:=Ac NQ.eq_1
def U0:=Ac Om.eq_1
def UI:=Ac OI.eq_1
def U3:=Ac Ou.eq_1
def U5:=Ac Pj.eq_1
def SX:=Ac LK.eq_1
def Tn:=Ac LX.eq_1
def SQ:=Ac Ea.eq_1
def SI:=Ac Nb.eq_1
def Tq:=Ac D9.eq_1
def Fb:=Ac MS.eq_1
def E9:=Ac G6.eq_1
def I8:=Ac G5.eq_1
def Tz:=Ac Na.eq_1
def S9:=Ac Me.eq_1
def TM:=Ac MX.eq_1
def RS:=Ac MN.eq_1
def YB:=Ac OL.eq_1
theorem Yx {K:TV→Prop} {e:Env} {H:List Ob}:res CP e H K=res [.tmp 4] e H K:=Aa rfl
def Bc:=(aI_ (aI_ (aI_ (aI_ (aI_ @D5 @Un) (aI_ @Vf @UK)) (aI_ (aI_ @Uc @U0) (aI_ @UI @U3))) (aI_ (aI_ (aI_ @U5 @SX) (aI_ @Tn @SQ)) (aI_ (aI_ @SI @Tq) (aI_ @Fb @E9)))) (aI_ (aI_ (aI_ @I8 @Tz) (aI_ @S9 @TM)) (aI_ (aI_ @RS @YB) @Yx)))
def Zi:=Gs 145 Tryz.func11 Abh Aa5 rfl
def QJ:Ae := .ops [po_ 5 (.load false 1 (.t 2)),mv_ 6 0,mv_ 7 1,⟨some 8,.p (.build [.val (.int .i64 ((0:Nat):Int)),.val (.string (str []))] [1,1] [⟨0,.t 6⟩,⟨1,.t 7⟩]),none⟩,⟨some 9,.s (.bslice 2 1 (.agg [.val (.int .i64 ((0:Nat):Int)),.val (.string (str []))]) [⟨0,.t 8⟩]),none⟩,so_ 10 (.app 2 24 47 (.t 5) (.t 9)),⟨none,.s (.store 1 (.t 2) (.t 10)),none⟩] []
def Qz:List VR:=[]
theorem Yp:Tryz.f21.body.bind (trC Tryz.prog Tryz.f21.ntmps)=some (er QJ):=by kernel_rfl
theorem YA:trR Tryz.prog Tryz.f21.results.toList=some Qz:=by kernel_rfl
def V7:=Ac QJ.eq_1
theorem WL {K:TV→Prop} {e:Env} {H:List Ob}:res Qz e H K=res [] e H K:=Aa rfl
def Yj:=(aI_ @V7 @WL)
def X4:=Gs 11 Tryz.func21 Yp YA rfl
def QK:Ae := .ops [po_ 55 (.load true 2 (.t 5)),mv_ 56 6,po_ 57 (.bin 3 .add (.t 56) (ci_ 1)),mv_ 58 7,po_ 59 (.bin 3 .add (.t 58) (ci_ 1)),so_ 60 (.call 23 [.t 55,.t 57,.t 59]),po_ 61 (.bin 21 .add (.t 60) (.c (.int .i32 ((1:Nat):Int)))),mv_ 8 61] [0,1,4,5,6,7,8]
def Qx:Ae := .seq (.seq (.draw 4 [mv_ 46 0,mv_ 47 6,po_ 48 (.idxA 1 (.t 46) (.t 47)),po_ 49 (.load false 1 (.t 48)),mv_ 50 1,mv_ 51 7,po_ 52 (.idxA 1 (.t 50) (.t 51)),po_ 53 (.load false 1 (.t 52)),po_ 54 (.bin 9 .eql (.t 49) (.t 53))] [0,1,4,5,6,7,8,54])
 (.cond (.t 54)
 QK
 (.skip)))
 (.ops [po_ 62 (.fieldA 1 1 (.t 5)),po_ 63 (.load false 1 (.t 62)),mv_ 64 6,po_ 65 (.fieldA 0 0 (.t 5)),po_ 66 (.load false 1 (.t 65)),po_ 67 (.bin 3 .mul (.t 64) (.t 66)),mv_ 68 7,po_ 69 (.bin 3 .add (.t 67) (.t 68)),mv_ 70 8,po_ 71 (.idxA 1 (.t 63) (.t 69)),⟨none,.s (.store 1 (.t 71) (.t 70)),none⟩] [0,1,4,5,6,7])
def QG:Ae := .seq (.block 3 (.seq (.draw 9 [po_ 35 (.load true 2 (.t 5)),mv_ 36 6,po_ 37 (.bin 3 .add (.t 36) (ci_ 1)),mv_ 38 7,so_ 39 (.call 23 [.t 35,.t 37,.t 38]),po_ 40 (.load true 2 (.t 5)),mv_ 41 6,mv_ 42 7,po_ 43 (.bin 3 .add (.t 42) (ci_ 1)),so_ 44 (.call 23 [.t 40,.t 41,.t 43]),po_ 45 (.max (.t 39) (.t 44)),mv_ 8 45] [0,1,4,5,6,7,8])
 Qx))
 (.ops [mv_ 33 7,po_ 34 (.bin 3 .sub (.t 33) (ci_ 1)),mv_ 7 34] [0,1,4,5,6,7])
def QD:Ae := .seq (.seq (.ops [mv_ 31 7,po_ 32 (.bin 3 .geq (.t 31) (ci_ 0))] [0,1,4,5,6,7,32])
 (.cond (.t 32)
 (.skip)
 (.exit 2)))
 QG
def QO:Ae := .block 2 (.loop [0,1,4,5,6,7] QD)
def QF:Ae := .ops [mv_ 26 6,po_ 27 (.bin 3 .sub (.t 26) (ci_ 1)),mv_ 6 27] [0,1,4,5,6]
def Qv:Ae := .seq (.block 1 (.seq (.ops [mv_ 28 1,po_ 29 (.lenV (.t 28)),po_ 30 (.bin 3 .sub (.t 29) (ci_ 1)),mv_ 7 30] [0,1,4,5,6,7])
 QO))
 QF
def QN:Ae := .seq (.seq (.ops [mv_ 24 6,po_ 25 (.bin 3 .geq (.t 24) (ci_ 0))] [0,1,4,5,6,25])
 (.cond (.t 25)
 (.skip)
 (.exit 0)))
 Qv
def Qp:Ae := .block 0 (.loop [0,1,4,5,6] QN)
def NW:Ae := .seq (.ops [po_ 72 (.load true 2 (.t 5)),⟨none,.s (.store 2 (.t 4) (.t 72)),none⟩] [4])
 (.ret)
def Pg:Ae := .seq (.seq (.ops [mv_ 21 0,po_ 22 (.lenV (.t 21)),po_ 23 (.bin 3 .sub (.t 22) (ci_ 1)),mv_ 6 23] [0,1,4,5,6])
 Qp)
 NW
def Py:Ae := .seq (.ops [mv_ 9 1,po_ 10 (.lenV (.t 9)),po_ 11 (.bin 3 .add (.t 10) (ci_ 1)),mv_ 12 0,po_ 13 (.lenV (.t 12)),po_ 14 (.bin 3 .add (.t 13) (ci_ 1)),mv_ 15 1,po_ 16 (.lenV (.t 15)),po_ 17 (.bin 3 .add (.t 16) (ci_ 1)),po_ 18 (.bin 3 .mul (.t 14) (.t 17)),so_ 19 (.mks 1 4 (.val (.int .i32 ((0:Nat):Int))) (.t 18) (.t 18)),⟨some 20,.p (.build [.val (.int .i64 ((0:Nat):Int)),.val (.slice none 0 0)] [1,1] [⟨0,.t 11⟩,⟨1,.t 19⟩]),none⟩,so_ 5 (.alloc (.agg [.val (.int .i64 ((0:Nat):Int)),.val (.slice none 0 0)])),⟨none,.s (.store 2 (.t 5) (.t 20)),none⟩] [0,1,4,5])
 Pg
def XI:Ae := .seq (.ops [so_ 4 (.alloc (.agg [.val (.int .i64 ((0:Nat):Int)),.val (.slice none 0 0)]))] [0,1,4])
 Py
def Xi:List VR:=[.cell 4 true 2]
theorem Ab8:Tryz.f22.body.bind (trC Tryz.prog Tryz.f22.ntmps)=some (er XI):=by kernel_rfl
theorem Ab6:trR Tryz.prog Tryz.f22.results.toList=some Xi:=by kernel_rfl
def Wh:=Ac QK.eq_1
def V5:=Ac Qx.eq_1
def Wv:=Ac QG.eq_1
def WE:=Ac QD.eq_1
def WF:=Ac QO.eq_1
def V4:=Ac QF.eq_1
def V6:=Ac Qv.eq_1
def WB:=Ac QN.eq_1
def WP:=Ac Qp.eq_1
def Us:=Ac NW.eq_1
def UM:=Ac Pg.eq_1
def UG:=Ac Py.eq_1
def ZV:=Ac XI.eq_1
theorem Z5 {K:TV→Prop} {e:Env} {H:List Ob}:res Xi e H K=res [.cell 4 true 2] e H K:=Aa rfl
def Ej:=(aI_ (aI_ (aI_ (aI_ @Wh @V5) (aI_ @Wv @WE)) (aI_ (aI_ @WF @V4) (aI_ @V6 @WB))) (aI_ (aI_ (aI_ @WP @Us) (aI_ @UM @UG)) (aI_ @ZV @Z5)))
def AaM:=Gs 73 Tryz.func22 Ab8 Ab6 rfl
def NZ:Ae := .seq (.ops [so_ 3 (.box (.t 0)),po_ 6 (.mov (.c (.int .i32 ((0:Nat):Int))))] [1,2,3])
 (.seq (.ops [po_ 7 (.fieldA 1 1 (.t 3)),po_ 8 (.load false 1 (.t 7)),mv_ 9 1,po_ 10 (.fieldA 0 0 (.t 3)),po_ 11 (.load false 1 (.t 10)),po_ 12 (.bin 3 .mul (.t 9) (.t 11)),mv_ 13 2,po_ 14 (.bin 3 .add (.t 12) (.t 13)),po_ 15 (.idxA 1 (.t 8) (.t 14)),po_ 16 (.load false 1 (.t 15)),mv_ 6 16] [6])
 (.ret))
def Po:List VR:=[.tmp 6]
theorem XC:Tryz.f23.body.bind (trC Tryz.prog Tryz.f23.ntmps)=some (er NZ):=by kernel_rfl
theorem XP:trR Tryz.prog Tryz.f23.results.toList=some Po:=by kernel_rfl
def Vg:=Ac NZ.eq_1
theorem UF {K:TV→Prop} {e:Env} {H:List Ob}:res Po e H K=res [.tmp 6] e H K:=Aa rfl
def X3:=(aI_ @Vg @UF)
def Ws:=Gs 17 Tryz.func23 XC XP rfl
def SG:Ae := .seq (.ops [so_ 1 (.box (.t 0)),po_ 2 (.mov (.c .nilFunc))] [1])
 (.seq (.ops [po_ 3 (.mkf (.func 43) [] [.t 1]),mv_ 2 3] [2])
 (.ret))
def Tt:List VR:=[.tmp 2]
theorem Z7:Tryz.f29.body.bind (trC Tryz.prog Tryz.f29.ntmps)=some (er SG):=by kernel_rfl
theorem Z8:trR Tryz.prog Tryz.f29.results.toList=some Tt:=by kernel_rfl
def Xo:=Ac SG.eq_1
theorem XU {K:TV→Prop} {e:Env} {H:List Ob}:res Tt e H K=res [.tmp 2] e H K:=Aa rfl
def ZL:=(aI_ @Xo @XU)
def Yz:=Gs 4 Tryz.func29 Z7 Z8 rfl
def I5:Ae := .draw 5 [po_ 12 (.load false 1 (.t 1)),mv_ 13 4,po_ 14 (.bin 3 .add (.t 13) (ci_ 1)),po_ 15 (.slV 1 (.t 12) none (some (.t 14))),po_ 16 (.load false 1 (.t 1)),mv_ 17 4,po_ 18 (.bin 3 .add (.t 17) (ci_ 1)),po_ 19 (.slV 1 (.t 16) (some (.t 18)) none),mv_ 3 15,⟨none,.s (.store 1 (.t 1) (.t 19)),none⟩] [0,1,3]
def IV:Ae := .cond (.t 11)
 I5
 (.ops [po_ 20 (.load false 1 (.t 1)),mv_ 3 20,⟨none,.s (.store 1 (.t 1) (.c (.slice none 0 0))),none⟩] [0,1,3])
def I7:Ae := .seq (.ops [mv_ 10 4,po_ 11 (.bin 3 .geq (.t 10) (ci_ 0))] [0,1,4,11])
 IV
def Jm:Ae := .seq (.seq (.ops [po_ 8 (.load false 1 (.t 1)),so_ 9 (.call 44 [.t 8,.c (.int .u8 ((10:Nat):Int))]),mv_ 4 9] [0,1,4])
 I7)
 (.seq (.ops [mv_ 21 0,mv_ 22 3,mv_ 23 3,po_ 24 (.lenV (.t 23)),mv_ 25 3,po_ 26 (.lenV (.t 25)),po_ 27 (.gen (.sl3 1) [.t 22,.c (.int .i64 ((0:Nat):Int)),.t 24,.t 26]),so_ 28 (.callv (.t 21) [.t 27]),po_ 29 (.un .not (.t 28))] [0,1,29])
 (.cond (.t 29)
 (.ret)
 (.skip)))
def Jk:Ae := .block 1 (.seq (.ops [po_ 3 (.mov (.c (.slice none 0 0)))] [0,1])
 Jm)
def IW:Ae := .seq (.seq (.ops [po_ 5 (.load false 1 (.t 1)),po_ 6 (.lenV (.t 5)),po_ 7 (.bin 3 .gtr (.t 6) (ci_ 0))] [0,1,7])
 (.cond (.t 7)
 (.skip)
 (.exit 0)))
 Jk
def N8:Ae := .block 0 (.loop [0,1] IW)
def NP:List VR:=[]
theorem Xr:Tryz.f43.body.bind (trC Tryz.prog Tryz.f43.ntmps)=some (er N8):=by kernel_rfl
theorem XX:trR Tryz.prog Tryz.f43.results.toList=some NP:=by kernel_rfl
def PZ:=Ac I5.eq_1
def Qc:=Ac IV.eq_1
def PY:=Ac I7.eq_1
def Qh:=Ac Jm.eq_1
def PW:=Ac Jk.eq_1
def Qb:=Ac IW.eq_1
def UE:=Ac N8.eq_1
theorem Vk {K:TV→Prop} {e:Env} {H:List Ob}:res NP e H K=res [] e H K:=Aa rfl
def BI:=(aI_ (aI_ (aI_ @PZ @Qc) (aI_ @PY @Qh)) (aI_ (aI_ @PW @Qb) (aI_ @UE @Vk)))
def Wx:=Gs 30 Tryz.func43 Xr XX rfl
end
section
open Go.RowKit
variable [A8]
set_option maxHeartbeats 2000000 in
set_option maxRecDepth 100000 in
theorem VB (a:Addr) (n c:Nat) (xs:List Int) (cv:Int) (w:World) (hx:xs.length=n) (hc:∀ i,i<n→w.cell? (a.add i)=some (.int .u8 (xs.getD i 0))) :
  Calls Tryz.prog 44 #[.slice (some a) n c,.int .u8 cv] w fun e w'=>e = .returned (.int .i64 (Lib.indexByte (Lib.bytesOf xs) cv.toNat.toUInt8))∧w'=w:=by
 go_enter Tryz.func44,Tryz.ntmps44
 go_wp2
 rw [run_callFunc_extern Tryz.func57 (by kernel_rfl) (by kernel_rfl) (by kernel_rfl) (e:=Extern.BytealgIndexByte.indexByte) (by kernel_rfl),Lib.run_indexByteAt w a n c xs hx hc cv]
 simp only [Result.andThen]
 rw [Oper.upon_value]
 go_wp2
 go_ret
 exact ⟨rfl,rfl⟩
set_option maxHeartbeats 2000000 in
set_option maxRecDepth 100000 in
theorem ZK (n c:Nat) (cv:Int) (w:World) :
  Calls Tryz.prog 44 #[.slice none n c,.int .u8 cv] w fun e w'=>e = .returned (.int .i64 (-1))∧w'=w:=by
 go_enter Tryz.func44,Tryz.ntmps44
 go_wp2
 rw [run_callFunc_extern Tryz.func57 (by kernel_rfl) (by kernel_rfl) (by kernel_rfl) (e:=Extern.BytealgIndexByte.indexByte) (by kernel_rfl),Lib.run_indexByteNil w n c cv]
 simp only [Result.andThen]
 rw [Oper.upon_value]
 go_wp2
 go_ret
 exact ⟨rfl,rfl⟩
theorem CE.indexByte (l:List UInt8) (c:UInt8):CE Tryz.prog 44 [slB l,by8 c] (fun x=>x = .val (.int .i64 (Lib.indexByte l c))):=by
 intro β F w vs hF hv
 obtain ⟨v,us,rfl,h1,hv⟩:=Bh.cons.1 hv
 obtain ⟨v2,us,rfl,h2,hv⟩:=Bh.cons.1 hv
 rw [Bh.nil] at hv; subst hv
 have h2':v2 = .int .u8 c.toNat:=by
  have:=Rep.val.1 (Or.inl h2:Rep _ _ _ _); exact this
 subst h2'
 have hcv:((c.toNat:Int)).toNat.toUInt8=c:=by
  rw [Int.toNat_natCast]; simp
 have fin:∀ e w',(e=Ending.returned (.int .i64 (Lib.indexByte l c))∧w'=w)→∃ v x F',e = .returned v∧x = .val (.int .i64 (Lib.indexByte l c))∧Rep ⟨β,[],F'⟩ w' x v∧KE F w F' w':=by
  rintro e w' ⟨rfl,rfl⟩
  exact ⟨_,_,F,rfl,rfl,Rep.of_val,⟨rfl,rfl,rfl,Nat.le_refl _,fun _ _=>rfl,fun _ h=>h,fun _ _ h=>h,hF.1⟩⟩
 have hr0:Rep ⟨β,[],F⟩ w (slB l) v:=Or.inl h1
 have hr:=hr0.sl
 obtain ⟨hw,hr⟩:=hr
 rcases hr with ⟨he,ad,cap,rfl,_⟩ | ⟨b,off,cap,us,rfl,h3,h4,h5,h6,h7⟩
 ·have hl:l=[]:=by simpa using he
  subst hl
  cases ad with
  | none=>exact (ZK 0 cap _ w).mono fun e w' h=>fin e w' h
  | some ad =>
   refine (VB ad 0 cap [] c.toNat w rfl (fun i hi=>by omega)).mono fun e w' h=>fin e w' ?_
   exact h
 ·have hb:=FW (fun y hy=>by obtain ⟨b,_,rfl⟩:=List.mem_map.1 hy; exact Adl b) h6
  rw [PN] at hb
  refine (VB ⟨b,off,none⟩ (l.map by8).length cap (l.map fun b:UInt8=>(b.toNat:Int)) c.toNat w (by simp) (fun i hi => ?_)).mono fun e w' h=>fin e w' ?_
  ·rw [CB]
   have hi':i<l.length:=by simpa using hi
   refine h7 i _ ?_
   rw [hb,List.getElem?_map,List.getElem?_eq_getElem hi',List.getD_eq_getElem?_getD,List.getElem?_map,List.getElem?_eq_getElem hi']
   rfl
  ·rw [hcv] at h
   have:Lib.bytesOf (l.map fun b:UInt8=>(b.toNat:Int))=l:=by
    simp [Lib.bytesOf,List.map_map,Function.comp_def]
   rw [this] at h; exact h
end
section
open Go.RowKit
variable [A8]
def AdC (r:List UInt8) (x:TV):Prop:=x=slB r∨(r=[]∧x = .val (.slice none 0 0))
theorem AeK {I:List UInt8→List Ob→Prop} {J:List Ob→Prop} {id sid L:Nat}
  (hI:∀ r H,I r H→L≤H.length∧r.length≤9223372036854775800∧∃ x,H[sid]?=some (.obj 0 x)∧AdC r x)
  (hy:∀ r H x,r≠[]→I r H→AdC (XH r).2 x→MP Tryz.prog id 0 [slB (XH r).1] (H.set sid (.obj 0 x)) (fun y H'=>(y = .val (.bool true)∧I (XH r).2 H')∨(y = .val (.bool false)∧J H')))
  {r0:List UInt8} {H0:List Ob} (h0:I r0 H0) (hL:H0.length=L):Aq Tryz.prog 43 [.yl id 0,.op sid 0 []] H0 (fun _ H'=>I [] H'∨J H'):=by
 refine Wx (by simp) ?_
 simp -dsimp (disch:=first | assumption | omega) only [↓Ai,Ag,Af,Nat.reduceAdd,↓BI]
 refine D6 (fun m e H=>∃ r,m=r.length∧e=[(0,.yl id 0),(1,.op sid 0 [])]∧I r H) r0.length ?_ ?_
 ·exact ⟨r0,rfl,rfl,h0⟩
 ·rintro n e H ⟨r,rfl,rfl,hr⟩
  obtain ⟨h1,h2,x,hx,hrx⟩:=hI r H hr
  have hlt:sid<H.length:=(List.getElem?_eq_some_iff.1 hx).1
  rcases hrx with rfl | ⟨rfl,rfl⟩
  ·simp -dsimp (disch:=first | assumption | omega) only [↓Ai,Ad,Ag,Af,eq_self,Nat.reduceEqDiff,↓reduceIte,reduceCtorEq,↓BI,hx]
   refine ER (fun h => ?_) (fun h => ?_)
   ·simp -dsimp (disch:=first | assumption | omega) only [↓Ai,Ad,Ag,Af,eq_self,Nat.reduceEqDiff,↓reduceIte,reduceCtorEq,↓BI,hx]
    have hne:r≠[]:=by rintro rfl; simp at h
    have hlen:=Ada r hne
    refine (CE.indexByte r 10).calls rfl ?_
    rintro x rfl
    have fin:∀ x',AdC (XH r).2 x'→MP Tryz.prog id 0 [slB (XH r).1] (H.set sid (.obj 0 x')) (fun y H'=>(y = .val (.bool true)∧I (XH r).2 H')∨(y = .val (.bool false)∧J H')):=fun x' hx'=>hy r H x' hne hr hx'
    rcases AeF r with ⟨k,k1,k2,k3⟩ | ⟨k1,k3⟩
    ·rw [k1]
     simp -dsimp (disch:=first | assumption | omega) only [↓Ai,Ad,Ag,Af,eq_self,Nat.reduceEqDiff,↓reduceIte,reduceCtorEq,Nat.reduceLeDiff,↓BI,hx]
     rw [List.take_take,Nat.min_self]
     rw [k3] at fin hlen
     refine MP.mono (fin _ (.inl rfl)) ?_
     rintro y H' (⟨rfl,hI'⟩ | ⟨rfl,hJ⟩)
     ·simp -dsimp (disch:=first | assumption | omega) only [↓Ai,Ad,Ag,Af,eq_self,Nat.reduceEqDiff,↓reduceIte,reduceCtorEq]
      exact BU _ hlen (by have:=(hI _ _ hI').1; omega) ⟨_,rfl,rfl,hI'⟩
     ·simp -dsimp (disch:=first | assumption | omega) only [↓Ai,Ad,Ag,Af,eq_self,Nat.reduceEqDiff,↓reduceIte,reduceCtorEq,↓BI]
      exact .inr hJ
    ·rw [k1]
     simp -dsimp (disch:=first | assumption | omega) only [↓Ai,Ad,Ag,Af,eq_self,Nat.reduceEqDiff,↓reduceIte,reduceCtorEq,↓BI,hx]
     rw [k3] at fin hlen
     refine MP.mono (fin _ (.inr ⟨rfl,rfl⟩)) ?_
     rintro y H' (⟨rfl,hI'⟩ | ⟨rfl,hJ⟩)
     ·simp -dsimp (disch:=first | assumption | omega) only [↓Ai,Ad,Ag,Af,eq_self,Nat.reduceEqDiff,↓reduceIte,reduceCtorEq]
      exact BU _ hlen (by have:=(hI _ _ hI').1; omega) ⟨_,rfl,rfl,hI'⟩
     ·simp -dsimp (disch:=first | assumption | omega) only [↓Ai,Ad,Ag,Af,eq_self,Nat.reduceEqDiff,↓reduceIte,reduceCtorEq,↓BI]
      exact .inr hJ
   ·have hr0:r=[]:=by cases r with
     | nil=>rfl
     | cons b r=>simp at h
    subst hr0
    simp -dsimp (disch:=first | assumption | omega) only [↓Ai,↓BI]
    exact .inl hr
  ·simp -dsimp (disch:=first | assumption | omega) only [↓Ai,Ad,Ag,Af,eq_self,Nat.reduceLT,Nat.reduceEqDiff,↓reduceIte,reduceCtorEq,↓BI,hx]
   exact .inl hr
end
section
open Go.RowKit
variable [A8]
theorem Zj {a b:TV}:(List.replicate 1 a).set 0 b=[b]:=by simp
theorem UR {l:List (List UInt8)} {x:List UInt8}:l.map ts++[TV.val (.string (str x))]=(l++[x]).map ts:=by simp
theorem Aeq (l:List UInt8) (H:List Ob):Aq Tryz.prog 29 [slB l] H (fun x H'=>x = .fn (.func 43) [] [.op H.length 0 []]∧H'=H++[.obj 0 (slB l)]):=by
 refine Yz (by simp) ?_
 simp -dsimp (disch:=first | assumption | omega) only [↓Ai,Ad,Ag,Af,eq_self,Nat.reduceEqDiff,↓reduceIte,↓ZL]
theorem OD (l:List UInt8) (hl:l.length≤4000):Ku Tryz.prog 15 [slB l] (fun x=>x=slS (Ak l)):=by
 refine Aq.toFreshV (Z9 (by simp) ?_)
 simp -dsimp (disch:=first | assumption | omega) only [↓Ai,Ad,Ag,Af,eq_self,Nat.reduceEqDiff,↓reduceIte,reduceCtorEq,↓OG]
 refine Aq.mono (Aeq l _) ?_
 rintro x H' ⟨rfl,rfl⟩
 simp -dsimp (disch:=first | assumption | omega) only [↓Ai,Ad,Ag,Af,eq_self,Nat.reduceEqDiff,↓reduceIte,Nat.reduceAdd,reduceCtorEq]
 refine AnL rfl (by kernel_rfl) rfl rfl ?_
 intro N fn ca cb hc
 refine Aq.mono (AeK (id:=3) (sid:=1) (L:=4) (r0:=l) (J:=fun _=>False) (I:=fun r H=>∃ (done:List (List UInt8)) (v:Nat) (x:TV),AdC r x∧Ak l=done++Ak r∧done.length+r.length≤l.length ∧
  H=[.obj 0 (.os 1 2 v [] 0 done.length done.length),.obj 0 x,.obj v (.arr done.length 1 (done.map ts)),.lp .ready none fn N [(2,.val (.slice none 0 0)),(3,.op 0 0 []),(6,.fn (.func 43) [] [.op 1 0 []])] [7] ca cb]) ?_ ?_ ?_ rfl) ?_
 ·rintro r H ⟨done,v,x,h1,h2,h3,rfl⟩
  exact ⟨by simp,by omega,x,rfl,h1⟩
 ·rintro r H x hne ⟨done,v,x0,h1,h2,h3,rfl⟩ hx
  have hlen:=Ada r hne
  have hcons:=Aa9 r hne
  refine Ahs rfl hc rfl rfl rfl ?_
  simp -dsimp (disch:=first | assumption | omega) only [↓Ai,Ad,Ag,Af,eq_self,Nat.reduceEqDiff,↓reduceIte,Nat.reduceAdd,Nat.reduceLeDiff,↓OG,AcR,Zj,UR,Al9]
  refine ⟨4,⟨by omega,by omega,.inr ?_⟩,.inl ⟨done++[(XH r).1],v+1,x,hx,?_,?_,?_⟩⟩
  ·rcases hx with rfl | ⟨_,rfl⟩<;>rfl
  ·rw [h2,hcons,List.append_assoc,List.singleton_append]
  ·rw [List.length_append,List.length_singleton]; omega
  ·simp
 ·exact ⟨[],0,slB l,.inl rfl,rfl,by simp,rfl⟩
 ·rintro _ H' (⟨done,v,x,h1,h2,h3,rfl⟩ | h)
  ·simp -dsimp (disch:=first | assumption | omega) only [↓Ai,Ad,Ag,Af,eq_self,Nat.reduceEqDiff,↓reduceIte,Nat.reduceAdd,↓OG,Y0]
   rw [h2]; simp [Ak,lin]
  ·exact h.elim
end
section
open Go.RowKit
variable [A8]
theorem AkI {x y:List (List UInt8)} {a0 i nh v:Nat} {hsT:TV} {es:List EZ} {o1:Ob} {ho1:EW 2 o1=true} {hT:Dl 2 hsT=true} (hx:x.length≤4000) (hes:es.length≤900000) (hy:y.length≤2000000) (ha:a0≤x.length) {Q:VEx→Env→List Ob→Prop}
  (hno:apE x a0 es=none→∀ H',Q .ret [(4,.val (.slice none 0 0)),(5,eno 91)] H')
  (hyes:∀ o z a' v' G T,apE x a0 es=some (o,a')→z=y++o→Q .nor ([(8,slS x),(9,.os 1 0 v' [] 0 z.length z.length),(10,i64 (a':Int)),(27,hsT),(28,i64 (nh:Int)),(29,i64 (i:Int))]++G) (.obj v' (.arr z.length 1 (z.map ts))::T)) :
  vwp Tryz.prog IC Q [(8,slS x),(9,.os 1 0 v [] 0 y.length y.length),(10,i64 (a0:Int)),(27,hsT),(28,i64 (nh:Int)),(29,i64 (i:Int)),(49,.sl 2 (es.map ez)),(50,i64 (es.length:Int)),(51,i64 ((0:Nat):Int))] [.obj v (.arr y.length 1 (y.map ts)),o1]:=by
 simp -dsimp (disch:=first | assumption | omega) only [↓Ai,Ad,Af,eq_self,Nat.reduceEqDiff,↓reduceIte,↓Ba]
 refine D6 (fun q e H=>∃ (k a v:Nat) (o z:List (List UInt8)),q=es.length - k∧k≤es.length∧a≤x.length∧o.length≤k∧z=y++o∧apE x a0 es=(apE x a (es.drop k)).map (fun p=>(o++p.1,p.2)) ∧
  e=[(8,slS x),(9,.os 1 0 v [] 0 z.length z.length),(10,i64 (a:Int)),(27,hsT),(28,i64 (nh:Int)),(29,i64 (i:Int)),(49,.sl 2 (es.map ez)),(50,i64 (es.length:Int)),(51,i64 (k:Int))]∧H=[.obj v (.arr z.length 1 (z.map ts)),o1]) es.length ?_ ?_
 ·exact ⟨0,a0,v,[],y,rfl,by omega,ha,by simp,by simp,by cases h:apE x a0 es<;>simp [h],rfl,rfl⟩
 ·rintro q e H ⟨k,a,v,o,z,rfl,hk,hax,hok,hz,hE,rfl,rfl⟩
  have hzl:z.length=y.length+o.length:=by rw [hz,List.length_append]
  by_cases h:k<es.length
  case neg =>
   have hke:es.drop k=[]:=List.drop_eq_nil_of_le (by omega)
   rw [hke,apE] at hE
   clear hzl
   simp -dsimp (disch:=first | assumption | omega) only [↓Ai,Ad,Ag,Af,eq_self,Nat.reduceEqDiff,↓reduceIte,↓Ba]
   exact hyes o z a v [_,_,_,_] [_] (by rw [hE]; simp) hz
  obtain ⟨g,hg⟩:∃ g,es[k]?=some g:=⟨_,List.getElem?_eq_getElem h⟩
  have hdr:es.drop k=g::es.drop (k+1):=by
   obtain ⟨_,rfl⟩:=List.getElem?_eq_some_iff.1 hg
   exact List.drop_eq_getElem_cons h
  rw [hdr,apE] at hE
  have hb2:∀ (l:List (List UInt8)) (v:Nat),Qm 2 [.obj v (.arr l.length 1 (l.map ts)),o1]=true:=fun l v=>by
   show (EW 2 _ && (EW 2 o1 && true))=true
   rw [ho1]; rfl
  have hbE:∀ (n m a k:Nat),Sz 2 (forget [8,9,10,27,28,29,49,50,51] [(8,slS x),(9,.os 1 0 n [] 0 m m),(10,i64 (a:Int)),(27,hsT),(28,i64 (nh:Int)),(29,i64 (i:Int)),(49,.sl 2 (es.map ez)),(50,i64 (es.length:Int)),(51,i64 (k:Int))])=true:=fun n m a k=>by
   show (Dl 2 _ && (Dl 2 _ && (Dl 2 _ && (Dl 2 hsT && _))))=true
   rw [hT]; rfl
  have elz:z.length+1=(z++[g.2]).length:=by simp
  have hz2:z++[g.2]=y++(o++[g.2]):=by rw [hz,List.append_assoc]
  clear hzl
  have hzb:z.length≤2900000:=by rw [hz,List.length_append]; omega
  by_cases h2:g.1=2
  ·rw [if_neg (fun c=>c.1 h2)] at hE
   have h1:¬ g.1=1:=by omega
   have hE2:apE x a0 es=(apE x a (es.drop (k+1))).map (fun p=>(o++[g.2]++p.1,p.2)):=by
    rw [hE,if_neg (fun c=>c h2),Option.map_map]
    congr 1
    funext p
    simp [h1]
   simp -dsimp (disch:=first | assumption | omega) only [↓Ai,Ad,Ag,Af,eq_self,Nat.reduceEqDiff,↓reduceIte,Nat.reduceAdd,Nat.reduceLeDiff,↓Ba,hg,Aas,h2,Zj,UR]
   rw [elz]
   exact CJ (es.length - (k+1)) 2 (by omega) (by simp) (hbE _ _ _ _) (hb2 _ _) ⟨k+1,a,v+1,o++[g.2],z++[g.2],rfl,by omega,by omega,by simp; omega,hz2,hE2,rfl,rfl⟩
  ·by_cases hxa:x[a]?=some g.2
   case neg =>
    rw [if_pos ⟨h2,hxa⟩] at hE
    have hnone:apE x a0 es=none:=by rw [hE]; rfl
    by_cases hal:a=x.length
    ·simp -dsimp (disch:=first | assumption | omega) only [↓Ai,Ad,Ag,Af,eq_self,Nat.reduceEqDiff,↓reduceIte,Nat.reduceAdd,↓Ba,hg,Aas,hal]
     exact hno hnone _
    ·obtain ⟨w,hw⟩:∃ w,x[a]?=some w:=⟨_,List.getElem?_eq_getElem (by omega)⟩
     have hwg:¬ w=g.2:=fun e=>hxa (by rw [hw,e])
     simp -dsimp (disch:=first | assumption | omega) only [↓Ai,Ad,Ag,Af,eq_self,Nat.reduceEqDiff,↓reduceIte,Nat.reduceAdd,↓Ba,hg,Aas,hal,hw,hwg]
     exact hno hnone _
   rw [if_neg (fun c=>c.2 hxa)] at hE
   have hal2:=(List.getElem?_eq_some_iff.1 hxa).1
   have hal:¬ a=x.length:=by omega
   by_cases h1:g.1=1
   ·have hE2:apE x a0 es=(apE x (a+1) (es.drop (k+1))).map (fun p=>(o++p.1,p.2)):=by
     rw [hE,if_pos h2,Option.map_map]
     congr 1
     funext p
     simp [h1]
    simp -dsimp (disch:=first | assumption | omega) only [↓Ai,Ad,Ag,Af,eq_self,Nat.reduceEqDiff,↓reduceIte,Nat.reduceAdd,↓Ba,hg,Aas,h1,hal,hxa]
    exact CJ (es.length - (k+1)) 2 (by omega) (by simp) (hbE _ _ _ _) (hb2 _ _) ⟨k+1,a+1,v,o,z,rfl,by omega,by omega,by omega,hz,hE2,rfl,rfl⟩
   ·have hE2:apE x a0 es=(apE x (a+1) (es.drop (k+1))).map (fun p=>(o++[g.2]++p.1,p.2)):=by
     rw [hE,if_pos h2,Option.map_map]
     congr 1
     funext p
     simp [h1]
    simp -dsimp (disch:=first | assumption | omega) only [↓Ai,Ad,Ag,Af,eq_self,Nat.reduceEqDiff,↓reduceIte,Nat.reduceAdd,Nat.reduceLeDiff,↓Ba,hg,Aas,hal,hxa,Zj,UR]
    rw [elz]
    exact CJ (es.length - (k+1)) 2 (by omega) (by simp) (hbE _ _ _ _) (hb2 _ _) ⟨k+1,a+1,v+1,o++[g.2],z++[g.2],rfl,by omega,by omega,by simp; omega,hz2,hE2,rfl,rfl⟩
end
section
open Go.RowKit
variable [A8]
theorem Abt {c:Ctx} {w:World}:∀ {ws:List (List UInt8)} {vs:List Value},Ap c w (ws.map ts) vs→vs=ws.map fun x=>Value.string (str x)
 | [],vs,h=>by rw [List.map_nil,Ap] at h; exact h
 | x::ws,vs,h=>by
  rw [List.map_cons,Ap] at h
  obtain ⟨a,b,rfl,h1,h2⟩:=h
  rw [Am] at h1
  rw [h1.1,Abt h2]; rfl
theorem AbH:∀ ws:List (List UInt8),Lib.join ws []=ws.flatten
 | []=>rfl
 | [x]=>by rw [Lib.join_one]; simp
 | x::y::r=>by
  have ih:=AbH (y::r)
  unfold Lib.join at ih ⊢
  simp only [List.intercalate,List.intersperse,List.flatten_cons] at ih ⊢
  rw [ih]
  simp
theorem A2V (ws:List (List UInt8)) (hlen:ws.flatten.length≤100000000000000) (hn:ws.length≤1000000):CE Tryz.prog 17 [.sl 1 (ws.map ts),ts []] (fun r=>r=ts ws.flatten):=by
 intro β F w vs hF hv
 obtain ⟨v1,us,rfl,h1,hv⟩:=Bh.cons.1 hv
 obtain ⟨v2,us,rfl,h2,hv⟩:=Bh.cons.1 hv
 rw [Bh.nil] at hv; subst hv
 obtain rfl:=Rep.val.1 (Or.inl h2:Rep _ _ _ _)
 obtain ⟨_,h | ⟨b,off,cap,xs,rfl,hcap,hcap2,hFb,hx,hcell⟩⟩:=Rep.sl (Or.inl h1:Rep _ _ _ _)
 ·obtain ⟨h0,a,cap,rfl,_⟩:=h
  have hw0:ws=[]:=List.map_eq_nil_iff.1 h0
  subst hw0
  refine (Tryz.strings_Join_none a cap (str []) w).mono ?_
  rintro e w' ⟨rfl,rfl⟩
  have hb:=Ux (B:=w'.heap.size) w'
  exact ⟨_,_,F,rfl,rfl,Rep.of_val,⟨hb.os,hb.tape,hb.output,hb.size,hb.block,fun _ h=>h,fun _ _ h=>h,fun b hb'=>Nat.lt_of_lt_of_le (hF.1 b hb') hb.size⟩⟩
 have hxs:=Abt hx
 subst hxs
 have hmap:(ws.map str).map (·.data.toList)=ws:=by
  rw [List.map_map]
  conv=>rhs; rw [←List.map_id ws]
  exact List.map_congr_left fun x _=>Ae0 x
 have hlen2:(ws.map ts).length=(ws.map str).length:=by simp
 have hj:Lib.join ((ws.map str).map (·.data.toList)) (str []).data.toList=ws.flatten:=by rw [hmap,Ae0,AbH]
 rw [hlen2] at hcap ⊢
 have hc:=Tryz.strings_Join b off cap (ws.map str) (str []) w (fun j x hjx=>by
  rw [List.getElem?_map] at hjx
  obtain ⟨y,hy,rfl⟩:=Option.map_eq_some_iff.1 hjx
  exact hcell j _ (by rw [List.getElem?_map,hy]; rfl)) (hF.1 b hFb) (by simp; omega) hcap (by rw [hj]; omega)
 rw [hj] at hc
 refine hc.mono ?_
 rintro e w' ⟨rfl,hb⟩
 exact ⟨_,_,F,rfl,rfl,Rep.of_val,⟨hb.os,hb.tape,hb.output,hb.size,hb.block,fun _ h=>h,fun _ _ h=>h,fun b hb'=>Nat.lt_of_lt_of_le (hF.1 b hb') hb.size⟩⟩
end
section
open Go.RowKit
variable [A8] [Aj] [AU] [A7] [AL] [Ih]
def ApA (a p:List UInt8) (x:TV):Prop:=(∀ b,Jq a p = .yes b→x = .tup [slB b,.val .nilIface])∧(∀ e,Jq a p = .no e→x = .tup [.val (.slice none 0 0),eno (e:Int)])
theorem Am5 (l:List UInt8):Lib.hasSuffix l [10]=decide (l.getLast?=some 10):=by
 unfold Lib.hasSuffix
 by_cases h:l=[]
 ·subst h; rfl
 ·rw [List.getLast?_eq_some_getLast h]
  conv=>lhs; rw [←List.dropLast_concat_getLast h]
  by_cases e:l.getLast h=10
  ·rw [e]; simp
  ·have:([10]:List UInt8).isSuffixOf (l.dropLast++[l.getLast h])=false:=by
    rw [Bool.eq_false_iff]
    intro hs
    rw [List.isSuffixOf_iff_suffix] at hs
    obtain ⟨t,ht⟩:=hs
    have:=congrArg List.getLast? ht
    simp at this
    exact e this.symm
   rw [this]; simp [e]
theorem AnA {HH:List Ob} {k ver:Nat} {y:List (List UInt8)} (h:HH[k]?=some (.obj ver (.arr y.length 1 (y.map ts)))):AlJ HH [.os 1 k ver [] 0 y.length y.length,ts []]=some [.sl 1 (y.map ts),ts []]:=by
 unfold AlJ
 simp -dsimp (disch:=first | assumption | omega | (simp only [Ah];try omega)) only [Af,eq_self,↓reduceIte,Jv,Eo,h,CZ,Eh]
theorem An5 {a p:List UInt8} {y:List (List UInt8)} {v:Nat} {T:List Ob} (hy:y.length≤1000000) (hm:∀ l∈y,l.length≤900000) (hfl:y.flatten.length≤100000000000000) (hyes:Ab3 y→Jq a p = .yes y.flatten) (hno:¬ Ab3 y→Jq a p = .no 91) :
  vwp Tryz.prog He (Q4 OB fun x H'=>Bl (frs H' x) (ApA a p)) [(9,.os 1 0 v [] 0 y.length y.length)] (.obj v (.arr y.length 1 (y.map ts))::T):=by
 simp -dsimp (disch:=first | assumption | omega) only [↓Ai,Ad,Ag,Af,eq_self,Nat.reduceEqDiff,↓reduceIte,↓Ba]
 refine D6 (fun q e H=>∃ i:Nat,q=y.length - i∧i≤y.length∧(∀ j l,j<i→y[j]?=some l→j+1<y.length→l.getLast?=some 10)∧e=[(9,.os 1 0 v [] 0 y.length y.length),(89,.os 1 0 v [] 0 y.length y.length),(90,i64 (y.length:Int)),(91,i64 (i:Int))]∧H = .obj v (.arr y.length 1 (y.map ts))::T) y.length ?_ ?_
 ·exact ⟨0,rfl,by omega,by omega,rfl,rfl⟩
 ·rintro q e H ⟨i,rfl,hi,hpre,rfl,rfl⟩
  by_cases h:i<y.length
  case neg =>
   have hen:Ab3 y:=fun j l hl hj=>hpre j l (by omega) hl hj
   have hk:=hyes hen
   simp -dsimp (disch:=first | assumption | omega) only [↓Ai,Ad,Ag,Af,eq_self,Nat.reduceEqDiff,↓reduceIte,↓Ba]
   refine Rh ((A2V y hfl (by omega)).lends (AnA rfl) fun x hx=>⟨by rw [hx]; rfl,?_⟩)
   subst hx
   have hgt:∀ (o1 o:Ob),(o1::(T++[o]))[T.length+1]?=some o:=fun o1 o=>by simp
   simp -dsimp (disch:=first | assumption | omega | (simp only [Ah];try omega)) only [↓Ai,Ad,Ag,Af,eq_self,Nat.reduceEqDiff,↓reduceIte,UU,hgt,↓JD]
   exact ⟨fun b h=>(by rw [hk] at h; cases h; rfl),fun e h=>(by rw [hk] at h; cases h)⟩
  obtain ⟨w,hw⟩:∃ w,y[i]?=some w:=⟨_,List.getElem?_eq_getElem h⟩
  have hwl:=hm w (List.mem_of_getElem? hw)
  have nxt:(i+1<y.length→w.getLast?=some 10)→∀ j l,j<i+1→y[j]?=some l→j+1<y.length→l.getLast?=some 10:=fun hq j l hj hl hj2=>by
   by_cases hji:j=i
   ·subst hji; rw [hw] at hl; cases hl; exact hq hj2
   ·exact hpre j l (by omega) hl hj2
  by_cases h1:i+1<y.length
  case neg =>
   simp -dsimp (disch:=first | assumption | omega) only [↓Ai,Ad,Ag,Af,eq_self,Nat.reduceEqDiff,↓reduceIte,↓Ba,hw,h1]
   exact BU (y.length - (i+1)) (by omega) (by simp) ⟨i+1,rfl,by omega,nxt (fun hq=>absurd hq h1),rfl,rfl⟩
  ·simp -dsimp (disch:=first | assumption | omega) only [↓Ai,Ad,Ag,Af,eq_self,Nat.reduceEqDiff,↓reduceIte,↓Ba,hw,h1]
   refine Rh ((Y6 w [10] (by omega)).calls rfl fun r hr => ?_)
   subst hr
   rw [Am5]
   by_cases h2:w.getLast?=some 10
   ·simp -dsimp (disch:=first | assumption | omega) only [↓Ai,Ad,Ag,Af,eq_self,Nat.reduceEqDiff,↓reduceIte,h2]
    exact BU (y.length - (i+1)) (by omega) (by simp) ⟨i+1,rfl,by omega,nxt (fun _=>h2),rfl,rfl⟩
   ·have hn:=hno fun hen=>h2 (hen i w hw h1)
    simp -dsimp (disch:=first | assumption | omega) only [↓Ai,Ad,Ag,Af,eq_self,Nat.reduceEqDiff,↓reduceIte,↓Ba,h2]
    exact ⟨fun b h=>by rw [hn] at h; (cases h),fun e h=>by rw [hn] at h; (cases h); rfl⟩
theorem Xg {l:List UInt8}:∀ {ls:List (List UInt8)},l∈ls→l.length≤ls.flatten.length
 | a::ls,h=>by
  rw [List.flatten_cons,List.length_append]
  rcases List.mem_cons.1 h with rfl | h
  ·omega
  ·have:=Xg h; omega
theorem Alr {g:HZ}:∀ {hs:List HZ},g∈hs→g.es.length≤(hs.flatMap (·.es)).length
 | a::hs,h=>by
  rw [List.flatMap_cons,List.length_append]
  rcases List.mem_cons.1 h with rfl | h
  ·omega
  ·have:=Alr h; omega
theorem AdS {M:Nat}:∀ {ls:List (List UInt8)},(∀ l∈ls,l.length≤M)→ls.flatten.length≤ls.length*M
 | [],_=>by simp
 | a::ls,h=>by
  rw [List.flatten_cons,List.length_append,List.length_cons,Nat.add_mul]
  have:=AdS (ls:=ls) fun l hl=>h l (by simp [hl])
  have:=h a (by simp)
  omega
theorem Ale (a p:List UInt8) (ha:a.length≤4000) (hp:p.length≤900000):Ku Tryz.prog 6 [slB a,slB p] (ApA a p):=by
 refine Aq.toFreshV (ZO (by simp) ?_)
 simp -dsimp (disch:=first | assumption | omega) only [↓Ai,Ad,Ag,Af,eq_self,Nat.reduceEqDiff,↓reduceIte,Nat.reduceAdd,reduceCtorEq,↓Ba]
 refine Rh ((AoM p hp).calls rfl fun x hx => ?_)
 cases hh:Yn p 0 0 with
 | none =>
  rw [hx.2 hh]
  have hn:Jq a p = .no 90:=by unfold Jq; rw [hh]
  simp -dsimp (disch:=first | assumption | omega) only [↓Ai,Ad,Ag,Af,eq_self,Nat.reduceEqDiff,↓reduceIte,reduceCtorEq,↓Ba]
  exact ⟨fun b h=>by rw [hn] at h; (cases h),fun e h=>by rw [hn] at h; (cases h); rfl⟩
 | some hs =>
  rw [hx.1 hs hh]
  clear hx
  obtain ⟨o1,o2,o3,o4⟩:=Ady _ p 0 0 hs (Nat.le_refl _) hh
  have hxl:=BN a
  simp -dsimp (disch:=first | assumption | omega) only [↓Ai,Ad,Ag,Af,eq_self,Nat.reduceEqDiff,↓reduceIte,reduceCtorEq,↓Ba]
  refine Rh ((OD a ha).lends rfl fun x hx => ?_)
  subst hx
  simp -dsimp (disch:=first | assumption | omega) only [↓Ai,Ad,Ag,Af,eq_self,Nat.reduceEqDiff,↓reduceIte,reduceCtorEq,↓Ba]
  refine D6 (fun q e H=>∃ (i at_ v:Nat) (z:List (List UInt8)),q=hs.length - i∧i≤hs.length∧at_≤(Ak a).length∧apH (Ak a) 0 hs=(apH (Ak a) at_ (hs.drop i)).map (z ++ ·)∧Asn at_ (hs.drop i)∧z.length+((hs.drop i).flatMap (·.es)).length≤at_+p.length∧(∀ l∈z,l.length≤900000) ∧
   e=[(8,slS (Ak a)),(9,.os 1 0 v [] 0 z.length z.length),(10,i64 (at_:Int)),(27,.sl 3 (hs.map hz)),(28,i64 (hs.length:Int)),(29,i64 (i:Int))]∧H=[.obj v (.arr z.length 1 (z.map ts))]) hs.length ?_ ?_
  ·exact ⟨0,0,0,[],rfl,by omega,by omega,by rw [List.drop_zero]; simp,o1,by simpa using o2,by simp,rfl,rfl⟩
  ·rintro q e H ⟨i,at_,v,z,rfl,hi,hat,hA,hO,hZ,hM,rfl,rfl⟩
   by_cases h:i<hs.length
   case neg =>
    have hd:hs.drop i=[]:=List.drop_eq_nil_of_le (by omega)
    rw [hd,apH] at hA
    rw [hd] at hZ
    simp only [List.flatMap_nil,List.length_nil] at hZ
    have hdl:((Ak a).drop at_).length=(Ak a).length - at_:=List.length_drop ..
    have hzl:z.length+((Ak a).length - at_)=(z++(Ak a).drop at_).length:=by rw [List.length_append,hdl]
    have hmap:z.map ts++((Ak a).drop at_).map ts=(z++(Ak a).drop at_).map ts:=by rw [List.map_append]
    simp -dsimp (disch:=first | assumption | omega | (simp only [Ah];try omega)) only [↓Ai,Ad,Ag,Af,eq_self,Nat.reduceEqDiff,↓reduceIte,↓EK,↓EM,↓I4,hdl]
    rw [hzl,hmap]
    have hyl:(z++(Ak a).drop at_).length≤904000:=by rw [←hzl]; omega
    have hyM:∀ l∈z++(Ak a).drop at_,l.length≤900000:=fun l hl=>by
     rcases List.mem_append.1 hl with hl | hl
     ·exact hM l hl
     ·have:=Xg (List.mem_of_mem_drop hl)
      rw [BQ] at this
      omega
    have hfl:=AdS hyM
    refine An5 (by omega) hyM (by omega) (fun hen => ?_) (fun hen => ?_)
    ·unfold Jq; rw [hh]; simp only; rw [hA]; simp only [Option.map_some]; rw [if_pos hen]
    ·unfold Jq; rw [hh]; simp only; rw [hA]; simp only [Option.map_some]; rw [if_neg hen]
   ·obtain ⟨g,hg⟩:∃ g,hs[i]?=some g:=⟨_,List.getElem?_eq_getElem h⟩
    have hdr:hs.drop i=g::hs.drop (i+1):=by
     obtain ⟨_,rfl⟩:=List.getElem?_eq_some_iff.1 hg
     exact List.drop_eq_getElem_cons h
    rw [hdr,apH] at hA
    rw [hdr] at hO hZ
    obtain ⟨q1,q2⟩:=hO
    by_cases hgt:(Ak a).length<g.at_
    ·rw [if_pos hgt] at hA
     have hn:Jq a p = .no 91:=by unfold Jq; rw [hh]; simp only; rw [hA]; rfl
     simp -dsimp (disch:=first | assumption | omega) only [↓Ai,Ad,Ag,Af,eq_self,Nat.reduceEqDiff,↓reduceIte,Nat.reduceAdd,↓Ba,hg,Aqk,hgt]
     exact ⟨fun b h=>by rw [hn] at h; (cases h),fun e h=>by rw [hn] at h; (cases h); rfl⟩
    ·rw [if_neg hgt] at hA
     have hml:(List.take (g.at_ - at_) (List.drop at_ (Ak a))).length=g.at_ - at_:=by simp; omega
     have hzl:z.length+(g.at_ - at_)=(z++List.take (g.at_ - at_) (List.drop at_ (Ak a))).length:=by rw [List.length_append,hml]
     simp -dsimp (disch:=first | assumption | omega | (simp only [Ah];try omega)) only [↓Ai,Ad,Ag,Af,eq_self,Nat.reduceEqDiff,↓reduceIte,Nat.reduceAdd,↓EK,↓EM,↓Ja,↓Jh,↓Jb,↓JO,↓J6,hg,Aqk,hgt,hml]
     have hmap:z.map ts++(List.take (g.at_ - at_) (List.drop at_ (Ak a))).map ts=(z++List.take (g.at_ - at_) (List.drop at_ (Ak a))).map ts:=by rw [List.map_append]
     have hgm:g∈hs:=List.mem_of_getElem? hg
     have hge:=Alr hgm
     rw [List.flatMap_cons,List.length_append] at hZ
     have hmd:(List.take g.at_ (Ak a)).drop at_=List.take (g.at_ - at_) (List.drop at_ (Ak a)):=List.drop_take ..
     rw [hmd] at hA
     rw [hzl,hmap]
     generalize hmid:List.take (g.at_ - at_) (List.drop at_ (Ak a))=mid at *
     have hmM:∀ l∈mid,l.length≤900000:=fun l hl=>by
      rw [←hmid] at hl
      have:=Xg (List.mem_of_mem_drop (List.mem_of_mem_take hl))
      rw [BQ] at this
      omega
     refine AkI (ho1:=rfl) (hT:=rfl) (by omega) (by omega) (by rw [List.length_append]; omega) (by omega) (fun hnone H' => ?_) (fun o zz a' v' G T hE hzz => ?_)
     ·rw [hnone] at hA
      have hn:Jq a p = .no 91:=by unfold Jq; rw [hh]; simp only; rw [hA]; rfl
      simp -dsimp (disch:=first | assumption | omega | (simp only [Ah];try omega)) only [↓Ai,Ad,Ag,Af,eq_self,Nat.reduceEqDiff,↓reduceIte,↓JD]
      exact ⟨fun b h=>(by rw [hn] at h; cases h),fun e h=>(by rw [hn] at h; cases h; rfl)⟩
     ·obtain ⟨e1,e2,e3,e4⟩:=AlI hE
      rw [hE] at hA
      simp -dsimp (disch:=first | assumption | omega | (simp only [Ah];try omega)) only [↓Ai,Ad,Ag,Af,eq_self,Nat.reduceEqDiff,↓reduceIte,↓Jr]
      have hzzl:zz.length=z.length+mid.length+o.length:=by rw [hzz,List.length_append,List.length_append]
      refine CJ (hs.length - (i+1)) 1 (by omega) (by simp) rfl rfl ⟨i+1,a',v',zz,rfl,by omega,e3 (by omega),?_,by rw [e1]; exact q2,by omega,?_,rfl,rfl⟩
      ·rw [hA]
       simp only
       rw [Option.map_map]
       congr 1
       funext w
       simp [hzz]
      ·intro l hl
       rw [hzz] at hl
       rcases List.mem_append.1 hl with hl | hl
       ·rcases List.mem_append.1 hl with hl | hl
        ·exact hM l hl
        ·exact hmM l hl
       ·obtain ⟨e,he,rfl⟩:=e4 l hl
        have:=((o4 g hgm).2 e he).1
        omega
end
section
abbrev Ed:=Nat×List UInt8
def cA (l:List Ed):Nat:=l.countP fun e=>decide (e.1≠2)
def cB (l:List Ed):Nat:=l.countP fun e=>decide (e.1≠1)
def X6:List UInt8:=[10,92,32,78,111,32,110,101,119,108,105,110,101,32,97,116,32,101,110,100,32,111,102,32,102,105,108,101,10]
def TF (k:Nat):List UInt8:=if k=0 then [32] else if k=1 then [45] else [43]
def DV (e:Ed):List UInt8:=TF e.1++e.2++(if e.2.getLast?=some 10 then [] else X6)
def Em (t n:Nat):List UInt8:=Lib.decDigits (if 0<n then t+1 else t)++[44]++Lib.decDigits n
def Ht (a n b m:Nat):List UInt8:=[64,64,32,45]++Em a n++[32,43]++Em b m++[32,64,64,10]
def GZ (l:List Ed) (p:Nat×Nat):List Ed:=(l.take p.2).drop p.1
def CQ (l:List Ed) (p:Nat×Nat):List UInt8:=Ht (cA (l.take p.1)) (cA (GZ l p)) (cB (l.take p.1)) (cB (GZ l p))++(GZ l p).flatMap DV
def chs:Nat→List Ed→List Nat
 | _,[]=>[]
 | k,e::l=>if e.1=0 then chs (k+1) l else k::chs (k+1) l
def run (c x:Nat):List Nat→Nat×List Nat
 | []=>(x,[])
 | y::ys=>if y≤x+2*c+1 then run c y ys else (x,y::ys)
theorem ZC (c:Nat):∀ (l:List Nat) (x:Nat),(run c x l).2.length≤l.length
 | [],x=>Nat.le_refl _
 | y::ys,x=>by
  rw [run]; split
  ·have:=ZC c ys y; simp only [List.length_cons]; omega
  ·exact Nat.le_refl _
def hks (c L:Nat):List Nat→List (Nat×Nat)
 | []=>[]
 | x::xs=>(x - c,min L ((run c x xs).1+1+c))::hks c L (run c x xs).2
termination_by l=>l.length
decreasing_by have:=ZC c xs x; simp only [List.length_cons]; omega
def EX (l:List Ed) (c:Nat):List UInt8:=(hks c l.length (chs 0 l)).flatMap (CQ l)
theorem MV:∀ (l:List Ed) (k y:Nat),y∈chs k l→k≤y∧y<k+l.length
 | [],k,y,h=>by simp [chs] at h
 | e::l,k,y,h=>by
  rw [chs] at h
  split at h
  ·have:=MV l (k+1) y h; simp only [List.length_cons]; omega
  ·rcases List.mem_cons.1 h with rfl | h
   ·simp
   ·have:=MV l (k+1) y h; simp only [List.length_cons]; omega
theorem XA:∀ (l:List Ed) (k:Nat),(chs k l).length≤l.length
 | [],k=>by simp [chs]
 | e::l,k=>by
  rw [chs]; have:=XA l (k+1)
  split<;>simp only [List.length_cons]<;>omega
theorem Xa {E:List Ed} {k:Nat} {e:Ed} (h:E[k]?=some e) (h0:e.1=0):chs k (E.drop k)=chs (k+1) (E.drop (k+1)):=by
 obtain ⟨hk,rfl⟩:=List.getElem?_eq_some_iff.1 h
 rw [List.drop_eq_getElem_cons hk,chs,if_pos h0]
theorem Xn {E:List Ed} {k:Nat} {e:Ed} (h:E[k]?=some e) (h0:e.1≠0):chs k (E.drop k)=k::chs (k+1) (E.drop (k+1)):=by
 obtain ⟨hk,rfl⟩:=List.getElem?_eq_some_iff.1 h
 rw [List.drop_eq_getElem_cons hk,chs,if_neg h0]
theorem AhF {E:List Ed} {k:Nat} (h:E.length≤k):chs k (E.drop k)=[]:=by rw [List.drop_eq_nil_of_le h,chs]
theorem WS {E:List Ed} {a:Nat}:∀ (n:Nat),(∀ y∈chs a (E.drop a),a+n≤y)→a+n≤E.length→chs a (E.drop a)=chs (a+n) (E.drop (a+n))
 | 0,_,_=>rfl
 | n+1,h,hl=>by
  have ih:=WS (E:=E) (a:=a) n (fun y hy=>by have:=h y hy; omega) (by omega)
  obtain ⟨e,he⟩:∃ e,E[a+n]?=some e:=⟨_,List.getElem?_eq_getElem (by omega)⟩
  by_cases h0:e.1=0
  ·rw [ih,Xa he h0]; rfl
  ·rw [ih,Xn he h0] at h
   have:=h (a+n) (by simp)
   omega
theorem Aiv {E:List Ed} {c:Nat}:∀ (n x k:Nat),n=E.length - k→x≤k→(∀ y∈chs (x+1) (E.drop (x+1)),k≤y∨y≤x)→x<E.length →
  (∃ l,run c x (chs k (E.drop k))=(l,chs (l+1) (E.drop (l+1)))∧x≤l∧l<E.length∧(∀ y∈chs (l+1) (E.drop (l+1)),l+2*c+1<y)):=by
 intro n
 induction n using Nat.strongRecOn with
 | ind n ih =>
  intro x k hn hxk hno hx
  have key:∀ y∈chs (x+1) (E.drop (x+1)),k≤y:=fun y hy=>by
   rcases hno y hy with h | h
   ·exact h
   ·have:=(MV _ _ _ hy).1; omega
  by_cases hk:k<E.length
  ·obtain ⟨e,he⟩:∃ e,E[k]?=some e:=⟨_,List.getElem?_eq_getElem hk⟩
   by_cases hxk1:x<k
   ·have e1:chs (x+1) (E.drop (x+1))=chs k (E.drop k):=by
     have:=WS (E:=E) (a:=x+1) (k - (x+1)) (fun y hy=>by have:=key y hy; omega) (by omega)
     rwa [show x+1+(k - (x+1))=k from by omega] at this
    by_cases h0:e.1=0
    ·have e2:=Xa he h0
     rw [e2]
     exact ih (E.length - (k+1)) (by omega) x (k+1) rfl (by omega) (fun y hy => .inl (by rw [e1,e2] at hy; exact (MV _ _ _ hy).1)) hx
    ·rw [Xn he h0,run]
     by_cases hc:k≤x+2*c+1
     ·rw [if_pos hc]
      obtain ⟨l,g1,g2,g3⟩:=ih (E.length - (k+1)) (by omega) k (k+1) rfl (by omega) (fun y hy => .inl (MV _ _ _ hy).1) hk
      exact ⟨l,g1,by omega,g3⟩
     ·rw [if_neg hc]
      refine ⟨x,by rw [e1,Xn he h0],Nat.le_refl _,hx,fun y hy => ?_⟩
      rw [e1] at hy
      have:=(MV _ _ _ hy).1; omega
   ·obtain rfl:x=k:=by omega
    by_cases h0:e.1=0
    ·rw [Xa he h0]
     exact ih (E.length - (x+1)) (by omega) x (x+1) rfl (by omega) (fun y hy => .inl (MV _ _ _ hy).1) hx
    ·rw [Xn he h0,run,if_pos (by omega)]
     exact ih (E.length - (x+1)) (by omega) x (x+1) rfl (by omega) (fun y hy => .inl (MV _ _ _ hy).1) hx
  ·rw [AhF (by omega),run]
   have e1:chs (x+1) (E.drop (x+1))=[]:=by
    apply List.eq_nil_iff_forall_not_mem.2
    intro y hy
    have:=key y hy; have:=(MV _ _ _ hy).2
    simp only [List.length_drop] at this
    omega
   exact ⟨x,by rw [e1],Nat.le_refl _,hx,fun y hy=>by rw [e1] at hy; simp at hy⟩
theorem Agu {E:List Ed} {c x:Nat} (hx:x<E.length):∃ l,run c x (chs (x+1) (E.drop (x+1)))=(l,chs (l+1) (E.drop (l+1)))∧x≤l∧l<E.length∧(∀ y∈chs (l+1) (E.drop (l+1)),l+2*c+1<y) :=
 Aiv _ x (x+1) rfl (by omega) (fun y hy => .inl (MV _ _ _ hy).1) hx
def JM (E:List Ed) (c i:Nat):List UInt8:=(hks c E.length (chs i (E.drop i))).flatMap (CQ E)
theorem AmU {E:List Ed} {c i l:Nat} {e:Ed} (h:E[i]?=some e) (h0:e.1≠0) (hr:run c i (chs (i+1) (E.drop (i+1)))=(l,chs (l+1) (E.drop (l+1)))) (hl:l<E.length)
  (hn:∀ y∈chs (l+1) (E.drop (l+1)),l+2*c+1<y):JM E c i=CQ E (i - c,min E.length (l+1+c))++JM E c (min E.length (l+1+c)):=by
 unfold JM
 rw [Xn h h0,hks,hr,List.flatMap_cons]
 congr 3
 have:=WS (E:=E) (a:=l+1) (min E.length (l+1+c) - (l+1)) (fun y hy=>by have:=hn y hy; omega) (by omega)
 rwa [show l+1+(min E.length (l+1+c) - (l+1))=min E.length (l+1+c) from by omega] at this
theorem Aa4 (l:List Ed):cA l≤l.length:=List.countP_le_length
theorem Abk (l:List Ed):cB l≤l.length:=List.countP_le_length
theorem Xq {E:List Ed} {a b:Nat} (h:a≤b):E.take b=E.take a++GZ E (a,b):=by
 unfold GZ
 have:(E.take b).take a=E.take a:=by rw [List.take_take,Nat.min_eq_left h]
 rw [←this,List.take_append_drop]
theorem AlD {E:List Ed} {a b:Nat} (h:a≤b):cA (E.take b)=cA (E.take a)+cA (GZ E (a,b)):=by rw [Xq h,cA,List.countP_append]; rfl
theorem Alg {E:List Ed} {a b:Nat} (h:a≤b):cB (E.take b)=cB (E.take a)+cB (GZ E (a,b)):=by rw [Xq h,cB,List.countP_append]; rfl
theorem AcU {E:List Ed} {a b:Nat}:(GZ E (a,b)).length≤E.length:=by unfold GZ; simp; omega
theorem Zw {E:List Ed} {p:Nat×Nat} {e:Ed} (h:e∈GZ E p):e∈E:=List.mem_of_mem_take (List.mem_of_mem_drop h)
theorem Aa0 (e:Ed):cA [e]=if e.1=2 then 0 else 1:=by unfold cA; by_cases h:e.1=2<;>simp [h]
theorem AdN (e:Ed):cB [e]=if e.1=1 then 0 else 1:=by unfold cB; by_cases h:e.1=1<;>simp [h]
theorem AdK (l m:List Ed):cA (l++m)=cA l+cA m:=List.countP_append
theorem AgU (l m:List Ed):cB (l++m)=cB l+cB m:=List.countP_append
theorem Y5:∀ (l:List Ed),(∀ e∈l,e.1=0)→cA l=l.length∧cB l=l.length
 | [],_=>⟨rfl,rfl⟩
 | e::l,h=>by
  obtain ⟨h1,h2⟩:=Y5 l fun x hx=>h x (by simp [hx])
  have h0:=h e (by simp)
  have a1:=AdK [e] l
  have a2:=AgU [e] l
  rw [Aa0,h0] at a1
  rw [AdN,h0] at a2
  simp at a1 a2
  simp only [List.length_cons]
  omega
theorem QU (n:Nat):(Lib.decDigits n).length≤n+1:=by
 induction n using Nat.strongRecOn with
 | ind n ih =>
  rw [Lib.decDigits]
  split
  ·simp
  ·rw [List.length_append,List.length_singleton]
   have:=ih (n / 10) (by omega)
   omega
theorem XQ (e:Ed):(DV e).length≤e.2.length+30:=by
 unfold DV TF
 have:X6.length=29:=rfl
 split<;>split<;>(try split)<;>simp [this]<;>omega
theorem Xj (l:List Ed) (B:Nat) (h:∀ e∈l,e.2.length≤B):(l.flatMap DV).length≤l.length*(B+30):=by
 induction l with
 | nil=>simp
 | cons e l ih =>
  rw [List.flatMap_cons,List.length_append,List.length_cons,Nat.add_mul]
  have h1:=XQ e
  have h2:=h e (by simp)
  have h3:=ih fun x hx=>h x (by simp [hx])
  omega
theorem AaE (a n b m:Nat):(Ht a n b m).length≤a+n+b+m+20:=by
 unfold Ht Em
 have h1:=QU (if 0<n then a+1 else a)
 have h2:=QU n
 have h3:=QU (if 0<m then b+1 else b)
 have h4:=QU m
 simp only [List.length_append,List.length_cons,List.length_nil]
 split at h1<;>split at h3<;>simp_all<;>omega
theorem Aiy {E:List Ed} (p:Nat×Nat) (h1:E.length≤10000) (h2:∀ e∈E,e.2.length≤4000):(CQ E p).length≤50000000:=by
 unfold CQ
 have a:=AaE (cA (E.take p.1)) (cA (GZ E p)) (cB (E.take p.1)) (cB (GZ E p))
 have b:=Xj (GZ E p) 4000 fun e he=>h2 e (Zw he)
 have c1:=Aa4 (E.take p.1)
 have c2:=Aa4 (GZ E p)
 have c3:=Abk (E.take p.1)
 have c4:=Abk (GZ E p)
 have c5:(GZ E p).length≤E.length:=AcU
 have c6:(E.take p.1).length≤E.length:=by simp; omega
 rw [List.length_append]
 have:(GZ E p).length*(4000+30)≤10000*4030:=Nat.mul_le_mul (by omega) (Nat.le_refl _)
 omega
theorem AcO (c L:Nat):∀ (n:Nat) (l:List Nat),l.length≤n→(hks c L l).length≤l.length:=by
 intro n
 induction n with
 | zero=>intro l h; rw [List.length_eq_zero_iff.1 (Nat.le_zero.1 h),hks]; simp
 | succ n ih =>
  intro l h
  cases l with
  | nil=>rw [hks]; simp
  | cons x xs =>
   rw [hks,List.length_cons,List.length_cons]
   have h1:=ZC c xs x
   simp only [List.length_cons] at h
   have:=ih (run c x xs).2 (by omega)
   omega
theorem AbD {E:List Ed} (h1:E.length≤10000) (h2:∀ e∈E,e.2.length≤4000) (l:List (Nat×Nat)):(l.flatMap (CQ E)).length≤l.length*50000000:=by
 induction l with
 | nil=>simp
 | cons p l ih =>
  rw [List.flatMap_cons,List.length_append,List.length_cons,Nat.add_mul]
  have:=Aiy p h1 h2
  omega
theorem AgB {E:List Ed} {c:Nat} (h1:E.length≤10000) (h2:∀ e∈E,e.2.length≤4000):(EX E c).length≤500000000000:=by
 unfold EX
 have a:=AbD h1 h2 (hks c E.length (chs 0 E))
 have b:=AcO c E.length _ (chs 0 E) (Nat.le_refl _)
 have d:=XA E 0
 have:(hks c E.length (chs 0 E)).length*50000000≤10000*50000000:=Nat.mul_le_mul (by omega) (Nat.le_refl _)
 omega
end
section
variable {α:Type} [DecidableEq α]
def tab:List α→List α→Nat
 | [],_=>0
 | _::_,[]=>0
 | a::x,b::y=>if a=b then tab x y+1 else max (tab x (b::y)) (tab (a::x) y)
termination_by x y=>x.length+y.length
theorem AlS (x:List α):tab x []=0:=by cases x<;>simp [tab]
theorem AdM:∀ (x y:List α),tab x y≤x.length
 | [],_=>by simp [tab]
 | _::_,[]=>by simp [tab]
 | a::x,b::y=>by
  have h1:=AdM x y
  have h2:=AdM x (b::y)
  have h3:=AdM (a::x) y
  rw [tab]
  split<;>simp only [List.length_cons] at * <;> omega
termination_by x y=>x.length+y.length
theorem Adm {x y:List α} {i j:Nat} (hi:i<x.length) (hj:j<y.length):tab (x.drop i) (y.drop j)=if x[i]=y[j] then tab (x.drop (i+1)) (y.drop (j+1))+1 else max (tab (x.drop (i+1)) (y.drop j)) (tab (x.drop i) (y.drop (j+1))):=by
 rw [List.drop_eq_getElem_cons hi,List.drop_eq_getElem_cons hj,tab,←List.drop_eq_getElem_cons hi,←List.drop_eq_getElem_cons hj]
def eds:List α→List α→List (Nat×α)
 | [],[]=>[]
 | a::x,[]=>(1,a)::eds x []
 | [],b::y=>(2,b)::eds [] y
 | a::x,b::y=>if a=b then (0,a)::eds x y else if tab (a::x) y≤tab x (b::y) then (1,a)::eds x (b::y) else (2,b)::eds (a::x) y
termination_by x y=>x.length+y.length
theorem AkZ {x y:List α} {i j:Nat} (hi:i<x.length) (hj:j<y.length) (h:x[i]=y[j]):eds (x.drop i) (y.drop j)=(0,x[i])::eds (x.drop (i+1)) (y.drop (j+1)):=by
 rw [List.drop_eq_getElem_cons hi,List.drop_eq_getElem_cons hj,eds,if_pos h]
theorem AcZ {x y:List α} {i j:Nat} (hi:i<x.length) (h:j=y.length∨∃ hj:j<y.length,x[i]≠y[j]∧tab (x.drop i) (y.drop (j+1))≤tab (x.drop (i+1)) (y.drop j)):eds (x.drop i) (y.drop j)=(1,x[i])::eds (x.drop (i+1)) (y.drop j):=by
 rcases h with rfl | ⟨hj,h1,h2⟩
 ·rw [List.drop_eq_getElem_cons hi,List.drop_length,eds]
 ·rw [List.drop_eq_getElem_cons hi,List.drop_eq_getElem_cons hj] at *
  rw [eds,if_neg h1,if_pos h2]
theorem AfZ {x y:List α} {i j:Nat} (hj:j<y.length) (h:i=x.length∨∃ hi:i<x.length,x[i]≠y[j]∧¬ tab (x.drop i) (y.drop (j+1))≤tab (x.drop (i+1)) (y.drop j)):eds (x.drop i) (y.drop j)=(2,y[j])::eds (x.drop i) (y.drop (j+1)):=by
 rcases h with rfl | ⟨hi,h1,h2⟩
 ·rw [List.drop_eq_getElem_cons hj,List.drop_length,eds]
 ·rw [List.drop_eq_getElem_cons hi,List.drop_eq_getElem_cons hj] at *
  rw [eds,if_neg h1,if_neg h2]
def edl:List α→List α→List (Nat×α)
 | a::x,b::y=>if a=b then (0,a)::edl x y else (a::x).map (fun l=>(1,l))++(b::y).map (fun l=>(2,l))
 | x,y=>x.map (fun l=>(1,l))++y.map (fun l=>(2,l))
theorem ZT {x y:List α} (h:∀ a∈x.head?,∀ b∈y.head?,a≠b):edl x y=x.map (fun l=>(1,l))++y.map (fun l=>(2,l)):=by
 cases x with
 | nil=>simp [edl]
 | cons a x=>cases y with
  | nil=>simp [edl]
  | cons b y=>rw [edl,if_neg (h a (by simp) b (by simp))]
def edx (long:Bool) (x y:List α):List (Nat×α):=if long then edl x y else eds x y
theorem AcW {long:Bool} {a:α} {x y:List α}:edx long (a::x) (a::y)=(0,a)::edx long x y:=by
 cases long
 ·show eds (a::x) (a::y)=_::eds x y
  rw [eds,if_pos rfl]
 ·show edl (a::x) (a::y)=_::edl x y
  rw [edl,if_pos rfl]
def AlC (x y:List α):List Nat:=(List.range ((x.length+1)*(y.length+1))).map fun c=>tab (x.drop (c / (y.length+1))) (y.drop (c % (y.length+1)))
theorem QX (x y:List α):(AlC x y).length=(x.length+1)*(y.length+1):=by simp [AlC]
theorem KO {n m i j:Nat} (hi:i≤n) (hj:j≤m):i*(m+1)+j<(n+1)*(m+1):=by
 have:i*(m+1)+(m+1)≤(n+1)*(m+1):=by rw [←Nat.succ_mul]; exact Nat.mul_le_mul_right _ (by omega)
 omega
theorem AcJ {x y:List α} {i j:Nat} (hi:i≤x.length) (hj:j≤y.length):(AlC x y)[i*(y.length+1)+j]?=some (tab (x.drop i) (y.drop j)):=by
 have h:=KO hi hj
 rw [AlC,List.getElem?_map,List.getElem?_range h,Option.map_some]
 have e1:(i*(y.length+1)+j) / (y.length+1)=i:=by
  rw [Nat.mul_comm,Nat.mul_add_div (by omega),Nat.div_eq_of_lt (by omega),Nat.add_zero]
 have e2:(i*(y.length+1)+j) % (y.length+1)=j:=by
  rw [Nat.mul_comm,Nat.mul_add_mod,Nat.mod_eq_of_lt (by omega)]
 rw [e1,e2]
structure Fil (x y:List α) (c:List Nat) (i j:Nat):Prop where
 len:c.length=(x.length+1)*(y.length+1)
 ok:∀ i' j',i'≤x.length→j'≤y.length→(i<i'∨(i=i'∧j≤j')∨j'=y.length)→c[i'*(y.length+1)+j']?=some (tab (x.drop i') (y.drop j'))
 zero:∀ i' j',i'≤x.length→j'≤y.length→(i'<i∨(i'=i∧j'<j))→j'<y.length→c[i'*(y.length+1)+j']?=some 0
theorem Fil.start (x y:List α):Fil x y (List.replicate ((x.length+1)*(y.length+1)) 0) x.length 0:=by
 refine ⟨by simp,fun i' j' h1 h2 h3 => ?_,fun i' j' h1 h2 h3 h4 => ?_⟩
 ·rw [List.getElem?_replicate,if_pos (KO h1 h2)]
  rcases h3 with h3 | ⟨rfl,_⟩ | rfl
  ·omega
  ·simp [tab]
  ·simp [AlS]
 ·rw [List.getElem?_replicate,if_pos (KO h1 h2)]
theorem Fil.done {x y:List α} {c:List Nat} (h:Fil x y c 0 0):c=AlC x y:=by
 apply List.ext_getElem?
 intro k
 by_cases hk:k<(x.length+1)*(y.length+1)
 ·have e:k=k / (y.length+1)*(y.length+1)+k % (y.length+1):=by rw [Nat.mul_comm]; exact (Nat.div_add_mod k _).symm
  have h1:k / (y.length+1)≤x.length:=by
   have:=Nat.div_lt_of_lt_mul (m:=k) (n:=y.length+1) (k:=x.length+1) (by rw [Nat.mul_comm]; exact hk)
   omega
  have h2:k % (y.length+1)≤y.length:=by have:=Nat.mod_lt k (show y.length+1 > 0 by omega); omega
  rw [e,h.ok _ _ h1 h2 ((Nat.eq_zero_or_pos _).elim (fun h => .inr (.inl ⟨h.symm,Nat.zero_le _⟩)) .inl),AcJ h1 h2]
 ·rw [List.getElem?_eq_none (by rw [h.len]; omega),List.getElem?_eq_none (by rw [QX]; omega)]
theorem Fil.row {x y:List α} {c:List Nat} {i:Nat} (h:Fil x y c (i+1) 0):Fil x y c i y.length:=by
 refine ⟨h.len,fun i' j' h1 h2 h3=>h.ok i' j' h1 h2 (by omega),fun i' j' h1 h2 h3 h4=>h.zero i' j' h1 h2 (by omega) h4⟩
theorem AfM {m i j i' j':Nat} (hj:j≤m) (hj':j'≤m) (h:i≠i'∨j≠j'):i*(m+1)+j≠i'*(m+1)+j':=by
 intro e
 have e1:(i*(m+1)+j) / (m+1)=i:=by
  rw [Nat.mul_comm,Nat.mul_add_div (by omega),Nat.div_eq_of_lt (by omega),Nat.add_zero]
 have e2:(i'*(m+1)+j') / (m+1)=i':=by
  rw [Nat.mul_comm,Nat.mul_add_div (by omega),Nat.div_eq_of_lt (by omega),Nat.add_zero]
 rw [e,e2] at e1
 subst e1
 omega
theorem Fil.set {x y:List α} {c:List Nat} {i j:Nat} (hi:i<x.length) (hj:j<y.length) (h:Fil x y c i (j+1)):Fil x y (c.set (i*(y.length+1)+j) (tab (x.drop i) (y.drop j))) i j:=by
 refine ⟨by rw [List.length_set,h.len],fun i' j' h1 h2 h3 => ?_,fun i' j' h1 h2 h3 h4 => ?_⟩
 ·by_cases he:i=i'∧j=j'
  ·obtain ⟨rfl,rfl⟩:=he
   rw [List.getElem?_set_self (by rw [h.len]; exact KO h1 h2)]
  ·rw [List.getElem?_set_ne (AfM (by omega) h2 (by omega))]
   exact h.ok i' j' h1 h2 (by omega)
 ·rw [List.getElem?_set_ne (AfM (by omega) h2 (by omega))]
  exact h.zero i' j' h1 h2 (by omega) h4
theorem UV {α:Type} [DecidableEq α]:∀ (x y:List α),(eds x y).length≤x.length+y.length
 | [],[]=>by simp [eds]
 | a::x,[]=>by have:=UV x []; rw [eds]; simp at *; omega
 | [],b::y=>by have:=UV [] y; rw [eds]; simp at *; omega
 | a::x,b::y=>by
  have h1:=UV x y
  have h2:=UV x (b::y)
  have h3:=UV (a::x) y
  rw [eds]
  split
  ·simp at *; omega
  ·split<;>simp at * <;> omega
termination_by x y=>x.length+y.length
theorem Agf {α:Type} [DecidableEq α]:∀ (x y:List α),(edl x y).length≤x.length+y.length
 | [],y=>by simp [edl]
 | a::x,[]=>by simp [edl]
 | a::x,b::y=>by
  have h1:=Agf x y
  rw [edl]
  split<;>simp at * <;> omega
theorem Ago (L:Bool) (x y:List (List UInt8)):(edx L x y).length≤x.length+y.length:=by
 cases L
 ·exact UV x y
 ·exact Agf x y
theorem Uy {α:Type} [DecidableEq α]:∀ (x y:List α) (e:Nat×α),e∈eds x y→e.1≤2∧(e.2∈x∨e.2∈y)
 | [],[],e,h=>by simp [eds] at h
 | a::x,[],e,h=>by
  rw [eds] at h
  rcases List.mem_cons.1 h with rfl | h
  ·simp
  ·have:=Uy x [] e h; simp at this ⊢; exact ⟨this.1,.inr this.2⟩
 | [],b::y,e,h=>by
  rw [eds] at h
  rcases List.mem_cons.1 h with rfl | h
  ·simp
  ·have:=Uy [] y e h; simp at this ⊢; exact ⟨this.1,.inr this.2⟩
 | a::x,b::y,e,h=>by
  rw [eds] at h
  split at h
  ·rcases List.mem_cons.1 h with rfl | h
   ·simp
   ·obtain ⟨h1,h2⟩:=Uy x y e h; exact ⟨h1,by rcases h2 with h2 | h2<;>simp [h2]⟩
  ·split at h
   ·rcases List.mem_cons.1 h with rfl | h
    ·simp
    ·obtain ⟨h1,h2⟩:=Uy x (b::y) e h; exact ⟨h1,h2.imp (fun h=>List.mem_cons_of_mem _ h) id⟩
   ·rcases List.mem_cons.1 h with rfl | h
    ·simp
    ·obtain ⟨h1,h2⟩:=Uy (a::x) y e h; exact ⟨h1,h2.imp id fun h=>List.mem_cons_of_mem _ h⟩
termination_by x y=>x.length+y.length
theorem AfW {α:Type} [DecidableEq α]:∀ (x y:List α) (e:Nat×α),e∈edl x y→e.1≤2∧(e.2∈x∨e.2∈y)
 | [],y,e,h=>by
  simp only [edl,List.map_nil,List.nil_append,List.mem_map] at h
  obtain ⟨a,ha,rfl⟩:=h; exact ⟨by omega,.inr ha⟩
 | a::x,[],e,h=>by
  simp only [edl,List.map_nil,List.append_nil,List.mem_map] at h
  obtain ⟨b,hb,rfl⟩:=h; exact ⟨by omega,.inl hb⟩
 | a::x,b::y,e,h=>by
  rw [edl] at h
  split at h
  ·rcases List.mem_cons.1 h with rfl | h
   ·simp
   ·obtain ⟨h1,h2⟩:=AfW x y e h; exact ⟨h1,by rcases h2 with h2 | h2<;>simp [h2]⟩
  ·rcases List.mem_append.1 h with h | h
   ·obtain ⟨c,hc,rfl⟩:=List.mem_map.1 h; exact ⟨by omega,.inl hc⟩
   ·obtain ⟨c,hc,rfl⟩:=List.mem_map.1 h; exact ⟨by omega,.inr hc⟩
theorem AgG (L:Bool) (x y:List (List UInt8)) (e:Nat×List UInt8) (h:e∈edx L x y):e.1≤2∧(e.2∈x∨e.2∈y):=by
 cases L
 ·exact Uy x y e h
 ·exact AfW x y e h
end
section
def Jw (E:List Ed):List (List UInt8):=(E.filter fun e=>decide (e.1≠2)).map (·.2)
def Y3 (E:List Ed):List (List UInt8):=(E.filter fun e=>decide (e.1≠1)).map (·.2)
theorem DT (e:Ed) (l:List Ed):Jw (e::l)=if e.1=2 then Jw l else e.2::Jw l:=by
 unfold Jw; by_cases h:e.1=2<;>simp [h]
theorem DW (e:Ed) (l:List Ed):Y3 (e::l)=if e.1=1 then Y3 l else e.2::Y3 l:=by
 unfold Y3; by_cases h:e.1=1<;>simp [h]
theorem KX (l m:List Ed):Jw (l++m)=Jw l++Jw m:=by unfold Jw; simp
theorem Zq (l m:List Ed):Y3 (l++m)=Y3 l++Y3 m:=by unfold Y3; simp
theorem PI (l:List Ed):(Jw l).length=cA l:=by unfold Jw cA; rw [List.length_map,List.countP_eq_length_filter]
theorem ZG:∀ l:List Ed,(∀ e∈l,e.1=0)→Jw l=Y3 l
 | [],_=>rfl
 | e::l,h=>by
  have h0:=h e (by simp)
  rw [DT,DW,ZG l fun x hx=>h x (by simp [hx])]
  simp [h0]
theorem YV:∀ (x y:List (List UInt8)),Jw (eds x y)=x∧Y3 (eds x y)=y
 | [],[]=>by rw [eds]; exact ⟨rfl,rfl⟩
 | a::x,[]=>by
  obtain ⟨h1,h2⟩:=YV x []
  rw [eds,DT,DW,h1,h2]; simp
 | [],b::y=>by
  obtain ⟨h1,h2⟩:=YV [] y
  rw [eds,DT,DW,h1,h2]; simp
 | a::x,b::y=>by
  rw [eds]
  split
  ·rename_i e
   obtain ⟨h1,h2⟩:=YV x y
   rw [DT,DW,h1,h2]; simp [e]
  ·split
   ·obtain ⟨h1,h2⟩:=YV x (b::y)
    rw [DT,DW,h1,h2]; simp
   ·obtain ⟨h1,h2⟩:=YV (a::x) y
    rw [DT,DW,h1,h2]; simp
termination_by x y=>x.length+y.length
theorem A3E (x:List (List UInt8)):Jw (x.map fun l=>(1,l))=x∧Y3 (x.map fun l=>(1,l))=[]:=by
 induction x with
 | nil=>exact ⟨rfl,rfl⟩
 | cons a x ih=>rw [List.map_cons,DT,DW,ih.1,ih.2]; simp
theorem A3H (x:List (List UInt8)):Jw (x.map fun l=>(2,l))=[]∧Y3 (x.map fun l=>(2,l))=x:=by
 induction x with
 | nil=>exact ⟨rfl,rfl⟩
 | cons a x ih=>rw [List.map_cons,DT,DW,ih.1,ih.2]; simp
theorem Vd (x y:List (List UInt8)):Jw (x.map (fun l=>(1,l))++y.map (fun l=>(2,l)))=x∧Y3 (x.map (fun l=>(1,l))++y.map (fun l=>(2,l)))=y:=by
 rw [KX,Zq,(A3E x).1,(A3E x).2,(A3H y).1,(A3H y).2]; simp
theorem Alq:∀ (x y:List (List UInt8)),Jw (edl x y)=x∧Y3 (edl x y)=y
 | [],y=>by
  rw [ZT (by simp)]
  exact Vd [] y
 | a::x,[]=>by
  rw [ZT (by simp)]
  exact Vd (a::x) []
 | a::x,b::y=>by
  rw [edl]
  split
  ·rename_i e
   obtain ⟨h1,h2⟩:=Alq x y
   rw [DT,DW,h1,h2]; simp [e]
  ·exact Vd (a::x) (b::y)
theorem AlA (L:Bool) (x y:List (List UInt8)):Jw (edx L x y)=x∧Y3 (edx L x y)=y:=by
 cases L
 ·exact YV x y
 ·exact Alq x y
theorem Adu (L:Bool):∀ (x:List (List UInt8)),∀ e∈edx L x x,e.1=0
 | []=>by
  have:edx L ([]:List (List UInt8)) []=[]:=by
   cases L
   ·show eds [] []=[]; rw [eds]
   ·show edl [] []=[]; rw [ZT (by simp)]; rfl
  rw [this]; simp
 | a::x=>by
  rw [AcW]
  intro e he
  rcases List.mem_cons.1 he with rfl | he
  ·rfl
  ·exact Adu L x e he
theorem Kz:∀ (k n:Nat),n<10 ^ (k+1)→(Lib.decDigits n).length≤k+1
 | 0,n,h=>by rw [Lib.decDigits_one (by simpa using h)]; simp
 | k+1,n,h=>by
  rw [Lib.decDigits.eq_1]
  split
  ·simp
  ·rw [List.length_append,List.length_singleton]
   have:=Kz k (n / 10) (by rw [Nat.pow_succ] at h; exact Nat.div_lt_of_lt_mul (by rw [Nat.mul_comm]; exact h))
   omega
def Asb (r:List UInt8):Prop:=∀ c,r.head?=some c→Bo c=false
theorem XY {c:UInt8} {r:List UInt8} (h:Bo c=false):Asb (c::r):=fun c' h'=>by cases h'; exact h
theorem Ac2 {n:Nat} {r:List UInt8} (hn:n<100000) (hr:Asb r):Ae2 (Lib.decDigits n++r)=some (n,r):=by
 obtain ⟨h0,h1,h2,h3⟩:=Alu n
 have hl:=Kz 4 n (by simpa using hn)
 have hall:∀ a∈Lib.decDigits n,Bo a=true:=fun a ha=>List.all_eq_true.1 h1 a ha
 have hr1:r.takeWhile Bo=[]:=by
  cases r with
  | nil=>rfl
  | cons c r=>rw [List.takeWhile_cons,hr c rfl]; rfl
 have hr2:r.dropWhile Bo=r:=by
  cases r with
  | nil=>rfl
  | cons c r=>rw [List.dropWhile_cons,hr c rfl]; rfl
 unfold Ae2
 rw [List.takeWhile_append_of_pos hall,List.dropWhile_append_of_pos hall,hr1,hr2,List.append_nil,if_pos ⟨h0,by omega,h3⟩,h2]
theorem Td (w r:List UInt8):Ig w (w++r)=some r:=by
 unfold Ig
 have:w.isPrefixOf (w++r)=true:=by rw [List.isPrefixOf_iff_prefix]; exact ⟨r,rfl⟩
 rw [this]; simp
theorem Y2 {t n:Nat} {r:List UInt8} (ht:t<99999) (hn:n<100000) (hr:Asb r):Yb (Em t n++r)=some (t,n,r):=by
 unfold Yb Em
 have ht2:(if 0<n then t+1 else t)<100000:=by split<;>omega
 rw [List.append_assoc,List.append_assoc,Ac2 (r:=[44]++(Lib.decDigits n++r)) ht2 (XY (by decide))]
 simp only
 rw [Td]
 simp only
 rw [Ac2 hn hr]
 simp only
 by_cases h:0<n
 ·rw [if_pos h,if_pos h,if_neg (by omega)]; simp
 ·rw [if_neg h,if_neg h]
theorem AjU {a n b m:Nat} {r:List UInt8} (ha:a<99999) (hn:n<100000) (hb:b<99999) (hm:m<100000):WN (Ht a n b m++r)=some ((a,n),(b,m),r):=by
 unfold WN Ht
 simp only [List.append_assoc]
 rw [show ([64,64,32,45]:List UInt8)=wAt from rfl,Td]
 simp only
 rw [show ([32,43]:List UInt8)++(Em b m++([32,64,64,10]++r))=wPl++(Em b m++(wEn++r)) from rfl,Y2 (r:=wPl++(Em b m++(wEn++r))) ha hn (XY (by decide))]
 simp only
 rw [Td]
 simp only
 rw [Y2 (r:=wEn++r) hb hm (XY (by decide))]
 simp only
 rw [Td]
structure AbO (l:List UInt8):Prop where
 ne:l≠[]
 cut:∃ t,(10:UInt8)∉t∧(l=t++[10]∨l=t)
theorem Zl:∀ (r cur:List UInt8),(10:UInt8)∉cur→(∀ l∈lin cur r,AbO l)∧Ab3 (lin cur r)
 | [],cur,hc=>by
  by_cases h:cur=[]
  ·simp [lin,h,Ab3]
  ·simp only [lin,h,if_false]
   refine ⟨fun l hl => ?_,fun i l hl hi => ?_⟩
   ·rw [List.mem_singleton] at hl; subst hl; exact ⟨h,_,hc,.inr rfl⟩
   ·simp at hi
 | b::r,cur,hc=>by
  by_cases h:b=10
  ·subst h
   obtain ⟨h1,h2⟩:=Zl r [] (by simp)
   rw [lin,if_pos rfl]
   refine ⟨fun l hl => ?_,fun i l hl hi => ?_⟩
   ·rcases List.mem_cons.1 hl with rfl | hl
    ·exact ⟨by simp,_,hc,.inl rfl⟩
    ·exact h1 l hl
   ·cases i with
    | zero=>cases hl; simp
    | succ i=>exact h2 i l (by simpa using hl) (by simpa using hi)
  ·rw [lin,if_neg h]
   exact Zl r (cur++[b]) (by simp [hc,Ne.symm h])
theorem YL (b:List UInt8):(∀ l∈Ak b,AbO l)∧Ab3 (Ak b):=Zl b [] (by simp)
theorem XZ {c:UInt8}:∀ {t r:List UInt8},c∉t→Vo c (t++c::r)=some t.length
 | [],r,_=>by simp [Vo]
 | b::t,r,h=>by
  have hb:¬ b=c:=fun e=>h (by simp [e])
  rw [List.cons_append,Vo,if_neg hb,XZ fun h2=>h (by simp [h2])]
  simp
def zOf (e:Ed):EZ:=((e.1:Int),e.2)
def AhY (r:List UInt8):Prop:=r.head?≠some 92
theorem An0 {r:List UInt8} (h:AhY r):noE.isPrefixOf r=false:=by
 cases r with
 | nil=>rfl
 | cons c r =>
  have hc:¬ (92:UInt8)=c:=fun e=>h (by rw [←e]; rfl)
  unfold noE
  rw [List.isPrefixOf]
  simp [hc]
theorem AiU {e:Ed} {r:List UInt8} (hk:e.1≤2) (hg:AbO e.2) (hr:AhY r):lnF (DV e++r)=some (zOf e,r):=by
 obtain ⟨k,l⟩:=e
 simp only at hk hg
 obtain ⟨c,hs,hkf,hc10⟩:∃ c,TF k=[c]∧Yg c=some (k:Int)∧c≠10:=by
  have:k=0∨k=1∨k=2:=by omega
  rcases this with rfl | rfl | rfl
  ·exact ⟨32,rfl,rfl,by decide⟩
  ·exact ⟨45,rfl,rfl,by decide⟩
  ·exact ⟨43,rfl,rfl,by decide⟩
 obtain ⟨hne,t,ht,hl⟩:=hg
 have hct:(10:UInt8)∉c::t:=by simp [ht,Ne.symm hc10]
 unfold DV zOf
 simp only [hs]
 rcases hl with rfl | rfl
 ·rw [if_pos (by simp)]
  have es:[c]++(t++[10])++[]++r=(c::t)++10::r:=by simp
  rw [es]
  unfold lnF
  rw [XZ hct]
  simp only
  have e1:((c::t)++10::r).take (c::t).length=c::t:=by simp
  have e2:((c::t)++10::r).drop ((c::t).length+1)=r:=by simp
  rw [e1,e2]
  simp only [hkf]
  unfold lnE
  rw [An0 hr]
  simp
 ·have h10:¬ l.getLast?=some 10:=fun e=>ht (List.mem_of_getLast? e)
  rw [if_neg h10]
  have es:[c]++l++X6++r=(c::l)++10::(noE++r):=by unfold X6 noE; simp
  rw [es]
  unfold lnF
  rw [XZ hct]
  simp only
  have e1:((c::l)++10::(noE++r)).take (c::l).length=c::l:=by simp
  have e2:((c::l)++10::(noE++r)).drop ((c::l).length+1)=noE++r:=by simp
  rw [e1,e2]
  simp only [hkf]
  unfold lnE
  have:noE.isPrefixOf (noE++r)=true:=by rw [List.isPrefixOf_iff_prefix]; exact ⟨r,rfl⟩
  rw [this]
  simp [hne]
theorem ApV (l:List Ed):zN (l.map zOf)=cA l:=by
 unfold zN cA zOf
 rw [List.countP_map]
 congr 1
 funext e
 simp only [Function.comp]
 have:((e.1:Int)≠2)↔(e.1≠2):=by omega
 simp only [this]
theorem AoV (l:List Ed):zM (l.map zOf)=cB l:=by
 unfold zM cB zOf
 rw [List.countP_map]
 congr 1
 funext e
 simp only [Function.comp]
 have:((e.1:Int)≠1)↔(e.1≠1):=by omega
 simp only [this]
theorem Af5 {e:Ed} {r:List UInt8}:AhY (DV e++r):=by
 unfold AhY DV TF
 split
 ·simp
 ·split<;>simp
theorem YR:∀ (l:List Ed) (r:List UInt8) (es:List EZ),(∀ e∈l,e.1≤2∧AbO e.2)→AhY r→(es++l.map zOf).any (fun e=>decide (e.1≠0))=true →
  Ae1 (zN es+cA l) (zM es+cB l) (l.flatMap DV++r) es=some (es++l.map zOf,r)
 | [],r,es,_,_,ha=>by
  rw [List.map_nil,List.append_nil] at ha
  have c0:cA []=0:=rfl
  have c1:cB []=0:=rfl
  rw [c0,c1,X0 (by omega),if_pos ⟨by omega,by omega,ha⟩]
  simp
 | e::l,r,es,hg,hr,ha=>by
  have a1:=AdK [e] l
  have a2:=AgU [e] l
  rw [Aa0] at a1
  rw [AdN] at a2
  rw [List.singleton_append] at a1 a2
  have hlt:zN es<zN es+cA (e::l)∨zM es<zM es+cB (e::l):=by
   rw [a1,a2]
   by_cases h2:e.1=2
   ·right; rw [if_neg (by omega)]; omega
   ·left; rw [if_neg h2]; omega
  obtain ⟨g1,g2⟩:=hg e (by simp)
  have nx:AhY (l.flatMap DV++r):=by
   cases l with
   | nil=>simpa using hr
   | cons f l=>rw [List.flatMap_cons,List.append_assoc]; exact Af5
  rw [List.flatMap_cons,List.append_assoc,AcM hlt (AiU g1 g2 nx)]
  have z1:=ApV [e]
  have z2:=AoV [e]
  rw [List.map_singleton] at z1 z2
  have b1:=AhJ es [zOf e]
  have b2:=AlE es [zOf e]
  have ih:=YR l r (es++[zOf e]) (fun x hx=>hg x (by simp [hx])) hr (by simpa using ha)
  rw [b1,b2,z1,z2,Aa0,AdN] at ih
  rw [a1,a2,←Nat.add_assoc,←Nat.add_assoc,ih]
  simp
theorem Aco {x:List (List UInt8)}:∀ (l:List Ed) (a:Nat) (z:List (List UInt8)),x.drop a=Jw l++z→apE x a (l.map zOf)=some (Y3 l,a+cA l)
 | [],a,z,_=>by rw [List.map_nil,apE]; rfl
 | e::l,a,z,h=>by
  have a1:=AdK [e] l
  rw [Aa0,List.singleton_append] at a1
  rw [DT] at h
  rw [List.map_cons,apE,DW,a1]
  have k2:(zOf e).1=(e.1:Int):=rfl
  have k3:(zOf e).2=e.2:=rfl
  rw [k2,k3]
  by_cases h2:e.1=2
  ·rw [if_pos h2] at h
   have i2:¬ ((e.1:Int)≠2):=by omega
   have i1:((e.1:Int)≠1):=by omega
   rw [if_neg (fun c=>i2 c.1),if_neg i2,Aco l a z h,if_pos h2,if_neg (by omega)]
   simp [i1]
  ·rw [if_neg h2] at h
   have i2:((e.1:Int)≠2):=by omega
   have hx:x[a]?=some e.2:=by
    have:=congrArg (·[0]?) h
    simpa using this
   have h':x.drop (a+1)=Jw l++z:=by
    have:=congrArg (List.drop 1) h
    simpa [List.drop_drop,Nat.add_comm] using this
   rw [if_neg (fun c=>c.2 hx),if_pos i2,Aco l (a+1) z h',if_neg h2]
   by_cases h1:e.1=1
   ·have i1:¬ ((e.1:Int)≠1):=by omega
    simp [h1]; omega
   ·have i1:((e.1:Int)≠1):=by omega
    simp [h1]; constructor
    ·omega
    ·omega
theorem XL:∀ (l:List Ed) (k i:Nat) (rest:List Nat),chs k l=i::rest→∃ n e,i=k+n∧l[n]?=some e∧e.1≠0∧(∀ x∈l.take n,x.1=0)∧rest=chs (i+1) (l.drop (n+1))
 | [],k,i,rest,h=>by simp [chs] at h
 | e::l,k,i,rest,h=>by
  rw [chs] at h
  split at h
  ·rename_i h0
   obtain ⟨n,e',rfl,h1,h2,h3,h4⟩:=XL l (k+1) i rest h
   refine ⟨n+1,e',by omega,by simpa using h1,h2,?_,?_⟩
   ·intro x hx
    rw [List.take_succ_cons] at hx
    rcases List.mem_cons.1 hx with rfl | hx
    ·exact h0
    ·exact h3 x hx
   ·rw [h4]; rfl
  ·rename_i h0
   cases h
   exact ⟨0,e,rfl,rfl,h0,by simp,rfl⟩
theorem AcB:∀ (l:List Ed) (k:Nat),chs k l=[]→∀ e∈l,e.1=0
 | [],k,_=>by simp
 | e::l,k,h=>by
  rw [chs] at h
  split at h
  ·rename_i h0
   intro x hx
   rcases List.mem_cons.1 hx with rfl | hx
   ·exact h0
   ·exact AcB l (k+1) h x hx
  ·cases h
theorem Abf {E:List Ed} {a b:Nat} (h:a≤b) (hb:b≤E.length):E.drop a=GZ E (a,b)++E.drop b:=by
 unfold GZ
 conv=>lhs; rw [←List.take_append_drop b E]
 rw [List.drop_append_of_le_length (by simp; omega)]
def wE (l:List Ed):Nat:=(l.map fun e=>e.2.length+62).sum
theorem Alf (l m:List Ed):wE (l++m)=wE l+wE m:=by unfold wE; simp
theorem ArX (l:List Ed):wE l≤(Jw l).flatten.length+(Y3 l).flatten.length+62*l.length:=by
 induction l with
 | nil=>simp [wE]
 | cons e l ih =>
  have:wE (e::l)=e.2.length+62+wE l:=by unfold wE; simp
  rw [this,DT,DW]
  by_cases h2:e.1=2
  ·have h1:¬ e.1=1:=by omega
   rw [if_pos h2,if_neg h1,List.flatten_cons,List.length_append,List.length_cons]; omega
  ·rw [if_neg h2]
   split
   ·rw [List.flatten_cons,List.length_append,List.length_cons]; omega
   ·rw [List.flatten_cons,List.length_append,List.flatten_cons,List.length_append,List.length_cons]; omega
theorem Ahn:∀ (l:List Ed),l≠[]→(l.flatMap DV).length+32≤wE l
 | [],h=>absurd rfl h
 | [e],_=>by
  have:=XQ e
  simp [wE]; omega
 | e::f::l,_=>by
  have h1:=XQ e
  have h2:=Ahn (f::l) (by simp)
  have:wE (e::f::l)=e.2.length+62+wE (f::l):=by unfold wE; simp
  rw [List.flatMap_cons,List.length_append]; omega
theorem Aqo {a n b m:Nat} (ha:a<99999) (hn:n<100000) (hb:b<99999) (hm:m<100000):(Ht a n b m).length≤32:=by
 have h1:=Kz 4 (if 0<n then a+1 else a) (by split<;>simp<;>omega)
 have h2:=Kz 4 n (by simpa using hn)
 have h3:=Kz 4 (if 0<m then b+1 else b) (by split<;>simp<;>omega)
 have h4:=Kz 4 m (by simpa using hm)
 unfold Ht Em
 simp only [List.length_append,List.length_cons,List.length_nil]
 omega
theorem ArA {E:List Ed} {c:Nat} (hok:∀ e∈E,e.1≤2∧AbO e.2) (hL:E.length≤90000):∀ (n q:Nat),n=E.length - q→q≤E.length→(q=0∨∀ y∈chs q (E.drop q),q+c≤y) →
  (∃ hs,Yn (JM E c q) (cA (E.take q)) ((cB (E.take q):Int) - (cA (E.take q):Int))=some hs∧apH (Jw E) (cA (E.take q)) hs=some (Y3 (E.drop q)))∧(JM E c q).length≤wE (E.drop q)∧AhY (JM E c q)∧(JM E c q=[]↔chs q (E.drop q)=[]):=by
 intro n
 induction n using Nat.strongRecOn with
 | ind n ih =>
  intro q hn hq hsep
  have hsplit:Jw E=Jw (E.take q)++Jw (E.drop q):=by rw [←KX,List.take_append_drop]
  cases hc:chs q (E.drop q) with
  | nil =>
   have hr:JM E c q=[]:=by unfold JM; rw [hc,hks]; rfl
   rw [hr]
   refine ⟨⟨[],ZM,?_⟩,by simp,by simp [AhY],by simp⟩
   rw [apH,hsplit,List.drop_append_of_le_length (by rw [PI]; omega),List.drop_eq_nil_of_le (by rw [PI]; omega),List.nil_append,ZG _ (AcB _ _ hc)]
  | cons i rest =>
   obtain ⟨k,e,rfl,he,h0,hkeep,hrest⟩:=XL _ _ _ _ hc
   rw [List.getElem?_drop] at he
   have hi:=(List.getElem?_eq_some_iff.1 he).1
   have hrest2:rest=chs (q+k+1) (E.drop (q+k+1)):=by rw [hrest,List.drop_drop,show q+(k+1)=q+k+1 by omega]
   have hci:chs q (E.drop q)=chs (q+k) (E.drop (q+k)):=by rw [hc,Xn he h0,hrest2]
   have hr1:JM E c q=JM E c (q+k):=by unfold JM; rw [hci]
   obtain ⟨l,hrun,hil,hl,hfar⟩:=Agu (E:=E) (c:=c) hi
   rw [hr1,AmU he h0 hrun hl hfar]
   have hqp:q≤q+k - c:=by
    rcases hsep with h | h
    ·omega
    ·have:=h (q+k) (by rw [hc]; simp); omega
   generalize hi':q+k=i at *
   generalize hp:i - c=p at *
   have hnext:=WS (E:=E) (a:=l+1) (min E.length (l+1+c) - (l+1)) (fun y hy=>by have:=hfar y hy; omega) (by omega)
   rw [show l+1+(min E.length (l+1+c) - (l+1))=min E.length (l+1+c) from by omega] at hnext
   have hq'1:i<min E.length (l+1+c):=by omega
   have hq'2:min E.length (l+1+c)≤E.length:=by omega
   have hsep':∀ y∈chs (min E.length (l+1+c)) (E.drop (min E.length (l+1+c))),min E.length (l+1+c)+c≤y:=fun y hy=>by
    rw [←hnext] at hy
    have:=hfar y hy
    omega
   generalize hq':min E.length (l+1+c)=q' at *
   obtain ⟨⟨hs,hr,hap⟩,hlen,h92,_⟩:=ih (E.length - q') (by omega) q' rfl hq'2 (.inr hsep')
   generalize JM E c q'=R at *
   have hpi:p≤i:=by omega
   -- the parts
   have d1:E.drop q=GZ E (q,p)++E.drop p:=Abf hqp (by omega)
   have d2:E.drop p=GZ E (p,q')++E.drop q':=Abf (by omega) hq'2
   have hkq:∀ x∈GZ E (q,p),x.1=0:=fun x hx=>hkeep x (by
    unfold GZ at hx
    have:(E.take p).drop q=(E.drop q).take (p - q):=List.drop_take ..
    rw [this] at hx
    exact List.take_subset_take_left _ (by omega) hx)
   obtain ⟨ck1,ck2⟩:=Y5 _ hkq
   have a1:=AlD (E:=E) hqp
   have a2:=Alg (E:=E) hqp
   have a3:=AlD (E:=E) (a:=p) (b:=q') (by omega)
   have a4:=Alg (E:=E) (a:=p) (b:=q') (by omega)
   have b1:=Aa4 (E.take p)
   have b2:=Abk (E.take p)
   have b3:=Aa4 (GZ E (p,q'))
   have b4:=Abk (GZ E (p,q'))
   have b5:(E.take p).length≤E.length:=by simp; omega
   have b6:(GZ E (p,q')).length≤E.length:=AcU
   have hmem:e∈GZ E (p,q'):=by
    unfold GZ
    refine List.mem_iff_getElem?.2 ⟨i - p,?_⟩
    rw [List.getElem?_drop,List.getElem?_take_of_lt (by omega),show p+(i - p)=i by omega]
    exact he
   have hmg:∀ x∈GZ E (p,q'),x.1≤2∧AbO x.2:=fun x hx=>hok x (Zw hx)
   have hu:IP (CQ E (p,q')++R)=some (⟨cA (E.take p),cB (E.take p),(GZ E (p,q')).map zOf⟩,R):=by
    unfold IP CQ
    simp only
    rw [List.append_assoc,AjU (by omega) (by omega) (by omega) (by omega)]
    simp only
    have:=YR (GZ E (p,q')) R [] hmg h92 (by
     rw [List.nil_append,List.any_eq_true]
     exact ⟨zOf e,List.mem_map_of_mem hmem,by simp [zOf]; omega⟩)
    have z1:zN []=0:=rfl
    have z2:zM []=0:=rfl
    rw [z1,z2,Nat.zero_add,Nat.zero_add,List.nil_append] at this
    rw [this]
   have hne:CQ E (p,q')++R≠[]:=by unfold CQ Ht; simp
   refine ⟨⟨⟨cA (E.take p),cB (E.take p),(GZ E (p,q')).map zOf⟩::hs,?_,?_⟩,?_,?_,?_⟩
   ·rw [AcS hne hu]
    simp only
    rw [if_neg (by intro h; rcases h with h | h<;>omega),ApV,AoV]
    have e1:cA (E.take p)+cA (GZ E (p,q'))=cA (E.take q'):=a3.symm
    have e2:(cB (E.take q):Int) - (cA (E.take q):Int)+(cB (GZ E (p,q')):Int) - (cA (GZ E (p,q')):Int)=(cB (E.take q'):Int) - (cA (E.take q'):Int):=by omega
    rw [e1,e2,hr]
    rfl
   ·rw [apH]
    simp only
    have x1:Jw E=Jw (E.take q)++(Jw (GZ E (q,p))++Jw (E.drop p)):=by rw [←KX,←KX,←d1,List.take_append_drop]
    have x2:Jw E=Jw (E.take p)++(Jw (GZ E (p,q'))++Jw (E.drop q')):=by rw [←KX,←KX,←d2,List.take_append_drop]
    have hle:¬ (Jw E).length<cA (E.take p):=by rw [x2,List.length_append,PI]; omega
    have x3:(Jw E).drop (cA (E.take p))=Jw (GZ E (p,q'))++Jw (E.drop q'):=by
     rw [x2,←PI (E.take p),List.drop_left]
    rw [if_neg hle,Aco _ _ _ x3,←a3]
    simp only
    rw [hap]
    simp only [Option.map_some]
    have x4:((Jw E).take (cA (E.take p))).drop (cA (E.take q))=Jw (GZ E (q,p)):=by
     have t1:Jw (E.take p)=Jw (E.take q)++Jw (GZ E (q,p)):=by rw [←KX,←Xq hqp]
     rw [x2,←PI (E.take p),List.take_left,t1,←PI (E.take q),List.drop_left]
    rw [x4,ZG _ hkq,←Zq,←Zq,←d2,←d1]
   ·rw [List.length_append]
    unfold CQ
    simp only
    rw [List.length_append]
    have w1:=Aqo (a:=cA (E.take p)) (n:=cA (GZ E (p,q'))) (b:=cB (E.take p)) (m:=cB (GZ E (p,q'))) (by omega) (by omega) (by omega) (by omega)
    have w2:=Ahn (GZ E (p,q')) (List.ne_nil_of_mem hmem)
    rw [d1,d2,Alf,Alf]
    omega
   ·unfold CQ Ht AhY; simp
   ·simp [hne]
theorem Aid {E:List Ed} {c:Nat} (hok:∀ e∈E,e.1≤2∧AbO e.2) (hL:E.length≤90000):(∃ hs,Yn (EX E c) 0 0=some hs∧apH (Jw E) 0 hs=some (Y3 E))∧(EX E c).length≤wE E∧(EX E c=[]↔chs 0 E=[]):=by
 obtain ⟨h1,h2,_,h3⟩:=ArA (c:=c) hok hL _ 0 rfl (Nat.zero_le _) (.inl rfl)
 exact ⟨h1,h2,h3⟩
theorem YZ (L:Bool) (a b:List UInt8) (c:Nat) (ha:a.length≤4000) (hb:b.length≤4000) :
  Jq a (EX (edx L (Ak a) (Ak b)) c) = .yes b∧(EX (edx L (Ak a) (Ak b)) c).length≤600000∧(EX (edx L (Ak a) (Ak b)) c=[]↔a=b):=by
 obtain ⟨g1,g2⟩:=YL a
 obtain ⟨g3,g4⟩:=YL b
 obtain ⟨l1,l2⟩:=AlA L (Ak a) (Ak b)
 have hlen:=Ago L (Ak a) (Ak b)
 have la:=BN a
 have lb:=BN b
 have hs0:a=b→∀ e∈edx L (Ak a) (Ak b),e.1=0:=fun e=>by subst e; exact Adu L _
 have hok:∀ e∈edx L (Ak a) (Ak b),e.1≤2∧AbO e.2:=fun e he=>by
  obtain ⟨h1,h2⟩:=AgG L _ _ e he
  exact ⟨h1,h2.elim (g1 _) (g3 _)⟩
 generalize edx L (Ak a) (Ak b)=E at *
 obtain ⟨⟨hs,h1,h2⟩,h3,h4⟩:=Aid (E:=E) (c:=c) hok (by omega)
 have hw:=ArX E
 rw [l1] at h2
 rw [l2] at h2
 rw [l1,l2,BQ,BQ] at hw
 refine ⟨?_,by omega,?_⟩
 ·unfold Jq
  rw [h1]
  simp only
  rw [h2]
  simp only
  rw [if_pos g4,BQ]
 ·rw [h4]
  constructor
  ·intro h
   have:=ZG E (AcB _ _ h)
   rw [l1,l2] at this
   rw [←BQ a,this,BQ]
  ·intro h
   have h0:=hs0 h
   cases hc:chs 0 E with
   | nil=>rfl
   | cons i rest =>
    obtain ⟨n,e,_,he,hn,_⟩:=XL _ _ _ _ hc
    exact absurd (h0 e (List.mem_of_getElem? he)) hn
end
section
variable [A8]
set_option maxRecDepth 100000
def IB:Ae := .seq (.ops [po_ 19 (.bin 3 .lss (.t 18) (.t 17))] [7,16,17,18,19])
 (.seq (.cond (.t 19)
 (.skip)
 (.exit 0))
 (.seq (.block 1 (.seq (.ops [po_ 20 (.idxA 3 (.t 16) (.t 18)),po_ 21 (.load true 3 (.t 20)),so_ 9 (.alloc (.agg [.val (.int .i64 ((0:Nat):Int)),.val (.int .i64 ((0:Nat):Int)),.val (.slice none 0 0)])),⟨none,.s (.store 3 (.t 9) (.t 21)),none⟩] [7,9,16,17,18])
 (.ops [po_ 22 (.load true 3 (.t 9)),so_ 23 (.call 25 [.t 22,.t 7])] [7,16,17,18])))
 (.ops [po_ 24 (.bin 3 .add (.t 18) (ci_ 1)),mv_ 18 24] [7,16,17,18])))
def IE:Ae := .seq (.ops [so_ 25 (.bstr 26 (.t 7)),so_ 26 (.s2b (.t 25)),mv_ 6 26] [6])
 (.ret)
def NV:Ae := .seq (.seq (.ops [mv_ 10 0,mv_ 11 1,so_ 12 (.call 11 [.t 10,.t 11]),mv_ 13 2,po_ 14 (.max (.t 13) (ci_ 0)),po_ 15 (.min (.t 14) (ci_ 1000)),so_ 16 (.call 24 [.t 12,.t 15]),po_ 17 (.lenV (.t 16)),po_ 18 (.mov (ci_ 0))] [7,16,17,18])
 (.block 0 (.ownT 7 [(1,1)] 5 (.loop [7,16,17,18] IB))))
 IE
def N7:Ae := .seq (.ops [so_ 7 (.allocT (.agg [.val (.pointer none),.val (.slice none 0 0)]) 68)] [0,1,2,7])
 NV
def VF:Ae := .seq (.ops [po_ 6 (.mov (.c (.slice none 0 0)))] [0,1,2])
 N7
def OV:List VR:=[.tmp 6]
theorem AbF:Tryz.f13.body.bind (trC Tryz.prog Tryz.f13.ntmps)=some (er VF):=by kernel_rfl
theorem AbC:trR Tryz.prog Tryz.f13.results.toList=some OV:=by kernel_rfl
def Um:=Ac IB.eq_1
def UO:=Ac IE.eq_1
def UC:=Ac NV.eq_1
def U8:=Ac N7.eq_1
def Yv:=Ac VF.eq_1
theorem Yk {K:TV→Prop} {e:Env} {H:List Ob}:res OV e H K=res [.tmp 6] e H K:=Aa rfl
def Gl:=(aI_ (aI_ (aI_ @Um @UO) (aI_ @UC @U8)) (aI_ @Yv @Yk))
def Aad:=Gs 27 Tryz.func13 AbF AbC rfl
def Ox:Ae := .seq (.block 1 (.seq (.ops [mv_ 18 16,po_ 19 (.idxA 2 (.t 14) (.t 16)),po_ 20 (.load true 2 (.t 19)),so_ 8 (.alloc (.agg [.val (.int .i64 ((0:Nat):Int)),.val (.string (str []))])),mv_ 7 18,⟨none,.s (.store 2 (.t 8) (.t 20)),none⟩] [0,1,5,6,7,8,14,15,16])
 (.seq (.ops [po_ 21 (.fieldA 0 0 (.t 8)),po_ 22 (.load false 1 (.t 21)),po_ 23 (.bin 36 .neq (.t 22) (ci_ 0))] [0,1,5,6,7,14,15,16,23])
 (.cond (.t 23)
 (.ops [mv_ 24 6,mv_ 25 7,⟨some 26,.s (.bslice 1 1 (.val (.int .i64 ((0:Nat):Int))) [⟨0,.t 25⟩]),none⟩,so_ 27 (.app 1 8 3 (.t 24) (.t 26)),mv_ 6 27] [0,1,5,6,14,15,16])
 (.skip)))))
 (.ops [po_ 28 (.bin 3 .add (.t 16) (ci_ 1)),mv_ 16 28] [0,1,5,6,14,15,16])
def Ol:Ae := .seq (.cond (.t 17)
 (.skip)
 (.exit 0))
 Ox
def Pv:Ae := .seq (.ops [po_ 17 (.bin 3 .lss (.t 16) (.t 15))] [0,1,5,6,14,15,16,17])
 Ol
def OA:Ae := .block 0 (.own 6 1 (.loop [0,1,5,6,14,15,16] Pv))
def OY:Ae := .seq (.seq (.draw 16 [mv_ 32 9,mv_ 33 6,po_ 34 (.lenV (.t 33)),po_ 35 (.bin 3 .lss (.t 32) (.t 34)),mv_ 36 35,⟨some 37,.p (.mov (.t 6)),some ⟨36,true⟩⟩,⟨some 38,.p (.mov (.t 9)),some ⟨36,true⟩⟩,⟨some 39,.p (.idxA 1 (.t 37) (.t 38)),some ⟨36,true⟩⟩,⟨some 40,.p (.load false 1 (.t 39)),some ⟨36,true⟩⟩,⟨some 41,.p (.mov (.t 6)),some ⟨36,true⟩⟩,⟨some 42,.p (.mov (.t 9)),some ⟨36,true⟩⟩,⟨some 43,.p (.bin 3 .sub (.t 42) (ci_ 1)),some ⟨36,true⟩⟩,⟨some 44,.p (.idxA 1 (.t 41) (.t 43)),some ⟨36,true⟩⟩,⟨some 45,.p (.load false 1 (.t 44)),some ⟨36,true⟩⟩,⟨some 46,.p (.bin 3 .sub (.t 40) (.t 45)),some ⟨36,true⟩⟩,⟨some 47,.p (.bin 3 .sub (.t 46) (ci_ 1)),some ⟨36,true⟩⟩,⟨some 48,.p (.mov (.t 1)),some ⟨36,true⟩⟩,⟨some 49,.p (.bin 3 .mul (ci_ 2) (.t 48)),some ⟨36,true⟩⟩,⟨some 50,.p (.bin 3 .leq (.t 47) (.t 49)),some ⟨36,true⟩⟩,po_ 51 (.pick (.t 36) (.t 50) (.c (.bool false)))] [0,1,5,6,9,51])
 (.cond (.t 51)
 (.skip)
 (.exit 4)))
 (.block 5 (.ops [mv_ 52 9,po_ 53 (.bin 3 .add (.t 52) (ci_ 1)),mv_ 9 53] [0,1,5,6,9]))
def O6:Ae := .seq (.ops [mv_ 79 5,mv_ 80 12,mv_ 81 13,mv_ 82 0,mv_ 83 10,mv_ 84 11,po_ 85 (.slV 2 (.t 82) (some (.t 83)) (some (.t 84))),⟨some 86,.p (.build [.val (.int .i64 ((0:Nat):Int)),.val (.int .i64 ((0:Nat):Int)),.val (.slice none 0 0)] [1,1,1] [⟨0,.t 80⟩,⟨1,.t 81⟩,⟨2,.t 85⟩]),none⟩,⟨some 87,.s (.bslice 3 1 (.agg [.val (.int .i64 ((0:Nat):Int)),.val (.int .i64 ((0:Nat):Int)),.val (.slice none 0 0)]) [⟨0,.t 86⟩]),none⟩,so_ 88 (.app 3 40 45 (.t 79) (.t 87)),mv_ 5 88] [0,1,5,6,9])
 (.ops [mv_ 89 6,mv_ 90 9,po_ 91 (.slV 1 (.t 89) (some (.t 90)) none),mv_ 6 91] [0,1,5,6])
def Pq:Ae := .seq (.ops [mv_ 72 0,mv_ 73 10,po_ 74 (.slV 2 (.t 72) none (some (.t 73))),⟨some 75,.p (.build [.val (.int .i64 ((0:Nat):Int)),.val (.int .i64 ((0:Nat):Int)),.val (.slice none 0 0)] [1,1,1] [⟨2,.t 74⟩]),none⟩,so_ 76 (.call 28 [.t 75]),mv_ 71 76,po_ 77 (.ext 0 (.t 71)),po_ 78 (.ext 1 (.t 71)),mv_ 12 77,mv_ 13 78] [0,1,5,6,9,10,11,12,13])
 O6
def Iz:Ae := .seq (.draw 9 [mv_ 54 6,po_ 55 (.idxA 1 (.t 54) (ci_ 0)),po_ 56 (.load false 1 (.t 55)),mv_ 57 1,po_ 58 (.bin 3 .sub (.t 56) (.t 57)),po_ 59 (.max (ci_ 0) (.t 58)),mv_ 60 0,po_ 61 (.lenV (.t 60)),mv_ 62 6,mv_ 63 9,po_ 64 (.bin 3 .sub (.t 63) (ci_ 1)),po_ 65 (.idxA 1 (.t 62) (.t 64)),po_ 66 (.load false 1 (.t 65)),po_ 67 (.bin 3 .add (.t 66) (ci_ 1)),mv_ 68 1,po_ 69 (.bin 3 .add (.t 67) (.t 68)),po_ 70 (.min (.t 61) (.t 69)),mv_ 10 59,mv_ 11 70] [0,1,5,6,9,10,11])
 Pq
def Oz:Ae := .seq (.block 4 (.loop [0,1,5,6,9] OY))
 Iz
def LY:Ae := .block 3 (.seq (.ops [po_ 9 (.mov (ci_ 1))] [0,1,5,6,9])
 Oz)
def MF:Ae := .seq (.seq (.ops [mv_ 29 6,po_ 30 (.lenV (.t 29)),po_ 31 (.bin 3 .gtr (.t 30) (ci_ 0))] [0,1,5,6,31])
 (.cond (.t 31)
 (.skip)
 (.exit 2)))
 LY
def ML:Ae := .seq (.ops [mv_ 92 5,mv_ 4 92] [4])
 (.ret)
def Nc:Ae := .seq (.block 2 (.own 5 3 (.loop [0,1,5,6] MF)))
 ML
def MR:Ae := .seq (.seq (.ops [mv_ 14 0,po_ 15 (.lenV (.t 14)),po_ 16 (.mov (ci_ 0))] [0,1,5,6,14,15,16])
 OA)
 Nc
def LZ:Ae := .seq (.ops [po_ 6 (.mov (.c (.slice none 0 0)))] [0,1,5,6])
 MR
def MO:Ae := .seq (.ops [po_ 5 (.mov (.c (.slice none 0 0)))] [0,1,5])
 LZ
def Vx:Ae := .seq (.ops [po_ 4 (.mov (.c (.slice none 0 0)))] [0,1])
 MO
def VL:List VR:=[.tmp 4]
theorem Aa3:Tryz.f24.body.bind (trC Tryz.prog Tryz.f24.ntmps)=some (er Vx):=by kernel_rfl
theorem Aby:trR Tryz.prog Tryz.f24.results.toList=some VL:=by kernel_rfl
def Ua:=Ac Ox.eq_1
def Vw:=Ac Ol.eq_1
def Vp:=Ac Pv.eq_1
def UJ:=Ac OA.eq_1
def DZ:=Ac OY.eq_1
def UX:=Ac O6.eq_1
def Ur:=Ac Pq.eq_1
def Vq:=Ac Iz.eq_1
def JK:=Ac Oz.eq_1
def Jc:=Ac LY.eq_1
def IY:=Ac MF.eq_1
def Tu:=Ac ML.eq_1
def Sj:=Ac Nc.eq_1
def SE:=Ac MR.eq_1
def TR:=Ac LZ.eq_1
def TE:=Ac MO.eq_1
def Yd:=Ac Vx.eq_1
theorem YG {K:TV→Prop} {e:Env} {H:List Ob}:res VL e H K=res [.tmp 4] e H K:=Aa rfl
def BB:=(aI_ (aI_ (aI_ (aI_ (aI_ @Ua @Vw) (aI_ @Vp @UJ)) (aI_ (aI_ @DZ @UX) (aI_ @Ur @Vq))) (aI_ (aI_ (aI_ @JK @Jc) (aI_ @IY @Tu)) (aI_ (aI_ @Sj @SE) (aI_ @TR @TE)))) (aI_ @Yd @YG))
def ZE:=Gs 93 Tryz.func24 Aa3 Aby rfl
def Ib:Ae := .seq (.draw 5 [mv_ 34 1,po_ 35 (.fieldA 0 0 (.t 7)),po_ 36 (.load false 1 (.t 35)),po_ 37 (.idxAA 3 1 (.g 1) (.t 36)),po_ 38 (.load false 1 (.t 37)),po_ 39 (.fieldA 1 1 (.t 7)),po_ 40 (.load false 1 (.t 39)),po_ 41 (.bin 9 .add (.t 38) (.t 40)),so_ 42 (.call 32 [.t 34,.t 41])] [1,7,28,29,30])
 (.seq (.ops [po_ 43 (.fieldA 1 1 (.t 7)),po_ 44 (.load false 1 (.t 43)),so_ 45 (.call 16 [.t 44,.c (.string (str [10]))]),po_ 46 (.un .not (.t 45))] [1,28,29,30,46])
 (.cond (.t 46)
 (.ops [mv_ 47 1,so_ 48 (.call 32 [.t 47,.c (.string (str [10,92,32,78,111,32,110,101,119,108,105,110,101,32,97,116,32,101,110,100,32,111,102,32,102,105,108,101,10]))])] [1,28,29,30])
 (.skip)))
def H7:Ae := .seq (.block 1 (.seq (.ops [po_ 32 (.idxA 2 (.t 28) (.t 30)),po_ 33 (.load true 2 (.t 32)),so_ 7 (.alloc (.agg [.val (.int .i64 ((0:Nat):Int)),.val (.string (str []))])),⟨none,.s (.store 2 (.t 7) (.t 33)),none⟩] [1,7,28,29,30])
 Ib))
 (.ops [po_ 49 (.bin 3 .add (.t 30) (ci_ 1)),mv_ 30 49] [1,28,29,30])
def Hy:Ae := .seq (.cond (.t 31)
 (.skip)
 (.exit 0))
 H7
def Hq:Ae := .seq (.ops [po_ 31 (.bin 3 .lss (.t 30) (.t 29))] [1,28,29,30,31])
 Hy
def Hl:Ae := .block 0 (.loop [1,28,29,30] Hq)
def Hg:Ae := .seq (.ops [po_ 27 (.fieldA 2 2 (.t 2)),po_ 28 (.load false 1 (.t 27)),po_ 29 (.lenV (.t 28)),po_ 30 (.mov (ci_ 0))] [1,28,29,30])
 Hl
def Hu:Ae := .seq (.draw 10 [mv_ 13 1,po_ 14 (.fieldA 0 0 (.t 2)),po_ 15 (.load false 1 (.t 14)),mv_ 16 4,po_ 20 (.fieldA 1 1 (.t 2)),po_ 21 (.load false 1 (.t 20)),mv_ 22 5,so_ 17 (.call 39 [.t 15,.t 16]),po_ 18 (.bin 9 .add (.c (.string (str [64,64,32,45]))) (.t 17)),po_ 19 (.bin 9 .add (.t 18) (.c (.string (str [32,43])))),so_ 23 (.call 39 [.t 21,.t 22]),po_ 24 (.bin 9 .add (.t 19) (.t 23)),po_ 25 (.bin 9 .add (.t 24) (.c (.string (str [32,64,64,10])))),so_ 26 (.call 32 [.t 13,.t 25])] [1,2])
 Hg
def H5:Ae := .seq (.ops [po_ 9 (.load true 3 (.t 2)),so_ 10 (.call 28 [.t 9]),mv_ 8 10,po_ 11 (.ext 0 (.t 8)),po_ 12 (.ext 1 (.t 8)),mv_ 4 11,mv_ 5 12] [1,2,4,5])
 Hu
def Kt:Ae := .seq (.ops [so_ 2 (.box (.t 0))] [1,2])
 H5
def JL:List VR:=[]
theorem U2:Tryz.f25.body.bind (trC Tryz.prog Tryz.f25.ntmps)=some (er Kt):=by kernel_rfl
theorem Vr:trR Tryz.prog Tryz.f25.results.toList=some JL:=by kernel_rfl
def NF:=Ac Ib.eq_1
def NK:=Ac H7.eq_1
def Ny:=Ac Hy.eq_1
def NH:=Ac Hq.eq_1
def Np:=Ac Hl.eq_1
def NG:=Ac Hg.eq_1
def NI:=Ac Hu.eq_1
def NJ:=Ac H5.eq_1
def Rq:=Ac Kt.eq_1
theorem RF {K:TV→Prop} {e:Env} {H:List Ob}:res JL e H K=res [] e H K:=Aa rfl
def Dh:=(aI_ (aI_ (aI_ (aI_ @NF @NK) (aI_ @Ny @NH)) (aI_ (aI_ @Np @NG) (aI_ @NI @NJ))) (aI_ @Rq @RF))
def RV:=Gs 50 Tryz.func25 U2 Vr rfl
def VG:Ae := .seq (.ops [po_ 4 (.mov (.c (.string (str []))))] [0,1])
 (.seq (.seq (.ops [mv_ 5 1,po_ 6 (.bin 3 .gtr (.t 5) (ci_ 0))] [0,1,6])
 (.cond (.t 6)
 (.ops [mv_ 7 0,po_ 8 (.bin 3 .add (.t 7) (ci_ 1)),mv_ 0 8] [0,1])
 (.skip)))
 (.seq (.ops [mv_ 9 0,so_ 10 (.call 52 [.t 9]),po_ 11 (.bin 9 .add (.t 10) (.c (.string (str [44])))),mv_ 12 1,so_ 13 (.call 52 [.t 12]),po_ 14 (.bin 9 .add (.t 11) (.t 13)),mv_ 4 14] [4])
 (.ret)))
def VJ:List VR:=[.tmp 4]
theorem Abe:Tryz.f39.body.bind (trC Tryz.prog Tryz.f39.ntmps)=some (er VG):=by kernel_rfl
theorem AaB:trR Tryz.prog Tryz.f39.results.toList=some VJ:=by kernel_rfl
def Yq:=Ac VG.eq_1
theorem Ya {K:TV→Prop} {e:Env} {H:List Ob}:res VJ e H K=res [.tmp 4] e H K:=Aa rfl
def Ji:=(aI_ @Yq @Ya)
def Zv:=Gs 15 Tryz.func39 Abe AaB rfl
end
section
open Go.RowKit
variable [A8]
theorem Xe {a b:TV}:(List.replicate 1 a).set 0 b=[b]:=by simp
end
section
open Go.RowKit
variable [A8]
abbrev i32 (n:Int):TV := .val (.int .i32 n)
def cel (n:Nat):TV:=i32 n
theorem AdI {n:Nat}:cel n=i32 (n:Int):=by unfold cel; rfl
theorem AfX {n:Int} (h1 : -2147483648≤n) (h2:n≤2147483647):IntKind.i32.wrap n=n:=by rw [IntKind.wrap_i32]; omega
theorem Ags {t:TypeId} {a b:Nat} (h:a+b≤2147483647):GU t .add (.int .i32 (a:Int)) (.int .i32 (b:Int))=some (.int .i32 ((a+b:Nat):Int)):=by
 rw [show GU t .add (.int .i32 (a:Int)) (.int .i32 (b:Int))=some (.int .i32 (IntKind.i32.wrap ((a:Int)+b))) from rfl,AfX (by omega) (by omega),Int.natCast_add]
theorem Ud {c:List Nat} {wd i j v:Nat} (h:i*wd+j≤9223372036854775807) (hv:c[i*wd+j]?=some v) :
  CE Tryz.prog 23 [.agg [i64 (wd:Int),.sl 1 (c.map cel)],i64 (i:Int),i64 (j:Int)] (fun x=>x=i32 (v:Int)):=by
 have h2:i*wd≤9223372036854775807:=by omega
 refine Aq.toPureV (Ws (by simp) ?_)
 simp -dsimp (disch:=first | assumption | omega) only [↓Ai,Ad,Ag,Af,eq_self,Nat.reduceEqDiff,↓reduceIte,Nat.reduceAdd,reduceCtorEq,↓X3,hv,AdI]
theorem Agz {K:TV→Prop} [Tg K] (x:TV) (h:K x):vex K:=⟨x,h⟩
theorem TA {n:Nat}:Ar (cel n)=1:=by rw [AdI]; rfl
theorem KT {l:List Nat} {k v:Nat}:(l.map cel).set k (i32 (v:Int))=(l.set k v).map cel:=by rw [List.map_set,AdI]
theorem Am9 {n:Nat}:List.replicate n (i32 ((0:Nat):Int))=(List.replicate n 0).map cel:=by
 rw [List.map_replicate,AdI]
def Arr (x y:List (List UInt8)) (c:List Nat):List Ob:=[.obj 0 (.agg [i64 ((0:Nat):Int),.val (.slice none 0 0)]),.obj 0 (.arr ((x.length+1)*(y.length+1)) 1 (c.map cel)),
 .obj 0 (.agg [i64 ((y.length+1:Nat):Int),.os 1 1 0 [] 0 ((x.length+1)*(y.length+1)) ((x.length+1)*(y.length+1))])]
theorem Aso {x y:List (List UInt8)} (hx:x.length≤2000) (hy:y.length≤2000):CE Tryz.prog 22 [slS x,slS y] (fun r=>r = .agg [i64 ((y.length+1:Nat):Int),.sl 1 ((AlC x y).map cel)]):=by
 refine Aq.toPureV (AaM (by simp) ?_)
 have hb:(x.length+1)*(y.length+1)≤2001*2001:=Nat.mul_le_mul (by omega) (by omega)
 simp -dsimp (disch:=first | assumption | omega) only [↓Ai,Ad,Ag,Af,eq_self,Nat.reduceEqDiff,↓reduceIte,Nat.reduceAdd,reduceCtorEq,↓Ej,Am9]
 refine D6 (fun m e H=>∃ (i:Nat) (c:List Nat),m=i∧i≤x.length∧Fil x y c i 0∧e=[(0,slS x),(1,slS y),(4,.op 0 0 []),(5,.op 2 0 []),(6,.val (.int .i64 ((i:Int) - ((1:Nat):Int))))]∧H=Arr x y c) x.length ?_ ?_
 ·exact ⟨x.length,_,rfl,Nat.le_refl _,Fil.start x y,rfl,rfl⟩
 ·rintro i e H ⟨_,c,rfl,hi,hc,rfl,rfl⟩
  unfold Arr
  rcases i with _ | i
  ·simp -dsimp (disch:=first | assumption | omega) only [↓Ai,Ad,Ag,Af,eq_self,Nat.reduceEqDiff,↓reduceIte,Nat.reduceAdd,reduceCtorEq,↓Ej]
   rw [hc.done,List.take_of_length_le (Nat.le_of_eq (QX x y)),if_pos (Nat.le_of_eq (QX x y).symm)]
   rfl
  ·have e1:(((i+1:Nat):Int) - ((1:Nat):Int))=(i:Int):=by omega
   rw [e1]
   simp -dsimp (disch:=first | assumption | omega) only [↓Ai,Ad,Ag,Af,eq_self,Nat.reduceEqDiff,↓reduceIte,Nat.reduceAdd,reduceCtorEq,↓Ej]
   refine D6 (fun m e H=>∃ (j:Nat) (c:List Nat),m=j∧j≤y.length∧Fil x y c i j∧e=[(0,slS x),(1,slS y),(4,.op 0 0 []),(5,.op 2 0 []),(6,i64 (i:Int)),(7,.val (.int .i64 ((j:Int) - ((1:Nat):Int))))]∧H=Arr x y c) y.length ?_ ?_
   ·exact ⟨y.length,c,rfl,Nat.le_refl _,hc.row,rfl,rfl⟩
   ·rintro j e H ⟨_,c2,rfl,hj,hc2,rfl,rfl⟩
    unfold Arr
    have hl:=hc2.len
    rcases j with _ | j
    ·simp -dsimp (disch:=first | assumption | omega) only [↓Ai,Ad,Ag,Af,eq_self,Nat.reduceEqDiff,↓reduceIte,reduceCtorEq,↓Ej]
     exact BU i (by omega) (by simp) ⟨i,c2,rfl,by omega,hc2,rfl,rfl⟩
    ·have e2:(((j+1:Nat):Int) - ((1:Nat):Int))=(j:Int):=by omega
     rw [e2]
     simp -dsimp (disch:=first | assumption | omega) only [↓Ai,Ad,Ag,Af,eq_self,Nat.reduceEqDiff,↓reduceIte,Nat.reduceAdd,reduceCtorEq,↓Ej]
     have g1:=hc2.ok (i+1) j (by omega) (by omega) (by omega)
     have g2:=hc2.ok i (j+1) (by omega) (by omega) (by omega)
     have g3:=hc2.ok (i+1) (j+1) (by omega) (by omega) (by omega)
     have b1:=KO (n:=x.length) (m:=y.length) (i:=i+1) (j:=j) (by omega) (by omega)
     have b2:=KO (n:=x.length) (m:=y.length) (i:=i) (j:=j+1) (by omega) (by omega)
     have b3:=KO (n:=x.length) (m:=y.length) (i:=i+1) (j:=j+1) (by omega) (by omega)
     refine Agz (i32 (tab (x.drop (i+1)) (y.drop j):Nat)) ⟨(Ud (by omega) g1).lends (args':=[.agg [i64 ((y.length+1:Nat):Int),.sl 1 (c2.map cel)],i64 ((i+1:Nat):Int),i64 (j:Int)]) ?_ (fun r hr=>⟨by rw [hr]; rfl,hr,rfl⟩),?_⟩
     ·simp -dsimp (disch:=first | assumption | omega) only [Ag,Af,eq_self,↓reduceIte]
     simp -dsimp (disch:=first | assumption | omega) only [↓Ai,Ad,Ag,Af,eq_self,Nat.reduceEqDiff,↓reduceIte,Nat.reduceAdd,reduceCtorEq]
     refine (Ud (by omega) g2).lends (args':=[.agg [i64 ((y.length+1:Nat):Int),.sl 1 (c2.map cel)],i64 (i:Int),i64 ((j+1:Nat):Int)]) (by simp -dsimp (disch:=first | assumption | omega) only [Ag,Af,eq_self,↓reduceIte]) ?_
     rintro r rfl
     refine ⟨rfl,?_⟩
     have hxi:x[i]?=some (x[i]'(by omega)):=List.getElem?_eq_getElem (by omega)
     have hyj:y[j]?=some (y[j]'(by omega)):=List.getElem?_eq_getElem (by omega)
     have hsE:x[i]'(by omega)=y[j]'(by omega)→tab (x.drop i) (y.drop j)=tab (x.drop (i+1)) (y.drop (j+1))+1:=fun h=>by rw [Adm (by omega) (by omega),if_pos h]
     have hsN:x[i]'(by omega)≠y[j]'(by omega)→tab (x.drop i) (y.drop j)=max (tab (x.drop (i+1)) (y.drop j)) (tab (x.drop i) (y.drop (j+1))):=fun h=>by rw [Adm (by omega) (by omega),if_neg h]
     have hf:=Fil.set (by omega) (by omega) hc2
     have hz:=hc2.zero i j (by omega) (by omega) (by omega) (by omega)
     have q1:=AdM (x.drop (i+1)) (y.drop (j+1))
     rw [List.length_drop] at q1
     simp -dsimp (disch:=first | assumption | omega) only [↓Ai,Ad,Ag,Af,eq_self,Nat.reduceEqDiff,↓reduceIte]
     refine ER (fun hm => ?_) (fun hm => ?_)
     ·simp -dsimp (disch:=first | assumption | omega) only [↓Ai,Ad,Ag,Af,eq_self,Nat.reduceEqDiff,↓reduceIte,reduceCtorEq,hxi,hyj]
      refine ER (fun he => ?_) (fun he => ?_)
      ·simp -dsimp (disch:=first | assumption | omega) only [↓Ai,Ad,Ag,Af,eq_self,Nat.reduceEqDiff,↓reduceIte,Nat.reduceAdd,reduceCtorEq,↓Ej]
       refine (Ud (by omega) g3).lends (args':=[.agg [i64 ((y.length+1:Nat):Int),.sl 1 (c2.map cel)],i64 ((i+1:Nat):Int),i64 ((j+1:Nat):Int)]) (by simp -dsimp (disch:=first | assumption | omega) only [Ag,Af,eq_self,↓reduceIte]) ?_
       rintro r rfl
       refine ⟨rfl,?_⟩
       simp -dsimp (disch:=first | assumption | omega) only [↓Ai,Ad,Ag,Af,eq_self,Nat.reduceEqDiff,↓reduceIte,Nat.reduceAdd,reduceCtorEq,Ags,hz,TA,KT]
       refine BU j (by omega) (by simp) ⟨j,_,rfl,by omega,hf,rfl,?_⟩
       rw [hsE he]
      ·simp -dsimp (disch:=first | assumption | omega) only [↓Ai,Ad,Ag,Af,eq_self,Nat.reduceEqDiff,↓reduceIte,Nat.reduceAdd,reduceCtorEq,hz,TA,KT]
       refine BU j (by omega) (by simp) ⟨j,_,rfl,by omega,hf,rfl,?_⟩
       rw [hsN he,Nat.max_eq_right (by omega)]
     ·simp -dsimp (disch:=first | assumption | omega) only [↓Ai,Ad,Ag,Af,eq_self,Nat.reduceEqDiff,↓reduceIte,reduceCtorEq,hxi,hyj]
      refine ER (fun he => ?_) (fun he => ?_)
      ·simp -dsimp (disch:=first | assumption | omega) only [↓Ai,Ad,Ag,Af,eq_self,Nat.reduceEqDiff,↓reduceIte,Nat.reduceAdd,reduceCtorEq,↓Ej]
       refine (Ud (by omega) g3).lends (args':=[.agg [i64 ((y.length+1:Nat):Int),.sl 1 (c2.map cel)],i64 ((i+1:Nat):Int),i64 ((j+1:Nat):Int)]) (by simp -dsimp (disch:=first | assumption | omega) only [Ag,Af,eq_self,↓reduceIte]) ?_
       rintro r rfl
       refine ⟨rfl,?_⟩
       simp -dsimp (disch:=first | assumption | omega) only [↓Ai,Ad,Ag,Af,eq_self,Nat.reduceEqDiff,↓reduceIte,Nat.reduceAdd,reduceCtorEq,Ags,hz,TA,KT]
       refine BU j (by omega) (by simp) ⟨j,_,rfl,by omega,hf,rfl,?_⟩
       rw [hsE he]
      ·simp -dsimp (disch:=first | assumption | omega) only [↓Ai,Ad,Ag,Af,eq_self,Nat.reduceEqDiff,↓reduceIte,Nat.reduceAdd,reduceCtorEq,hz,TA,KT]
       refine BU j (by omega) (by simp) ⟨j,_,rfl,by omega,hf,rfl,?_⟩
       rw [hsN he,Nat.max_eq_left (by omega)]
end
section
open Go.RowKit
variable [A8]
def ed (p:Nat×List UInt8):TV := .agg [i64 (p.1:Int),ts p.2]
theorem Zt {p:Nat×List UInt8}:ed p = .agg [i64 (p.1:Int),ts p.2]:=by unfold ed; rfl
theorem AeT {l:List (Nat×List UInt8)} {k:Nat} {x:List UInt8}:l.map ed++[TV.agg [i64 (k:Int),ts x]]=(l++[(k,x)]).map ed:=by simp [ed]
def TT (v:Nat) (es:List (Nat×List UInt8)):List Ob:=[.obj 0 (.os 2 1 v [] 0 es.length es.length),.obj v (.arr es.length 2 (es.map ed))]
theorem Aks {v k:Nat} {s:List UInt8} {es:List (Nat×List UInt8)} {Hr:List Ob} (hn:es.length≤100000) :
  Aq Tryz.prog 21 [i64 (k:Int),ts s,.op 0 0 []] (TT v es++Hr) (fun x H'=>x = .tup []∧∃ g,EW 0 g=true∧H'=TT (v+1) (es++[(k,s)])++Hr++[g]):=by
 unfold TT
 refine X4 (by simp) ?_
 simp -dsimp (disch:=first | assumption | omega) only [↓Ai,Ad,Ag,Af,eq_self,Nat.reduceEqDiff,↓reduceIte,Nat.reduceAdd,reduceCtorEq,Nat.reduceLeDiff,↓Yj,Zj,AeT]
 exact ⟨_,rfl,rfl⟩
def Aaf (tot:List (Nat×List UInt8)):TV→List Ob→Prop:=fun x H'=>Bl (frs H' x) fun r=>r = .sl 2 (tot.map ed)
theorem AjM {p:List (Nat×List UInt8)}:JH (p.map ed)=true:=by
 induction p with
 | nil=>rfl
 | cons a p ih=>rw [List.map_cons,JH,Zt,ih]; rfl
theorem ApC {p:List (Nat×List UInt8)} {v:Nat} {Hr:List Ob}:Aaf p (.os 2 1 v [] 0 p.length p.length) (TT v p++Hr):=by
 unfold Aaf TT
 simp -dsimp (disch:=first | assumption | omega) only [Ad,Ag,Af,eq_self,↓reduceIte,AjM]
theorem Ip:UB Tryz.prog 21=true:=Aa (by kernel_rfl)
abbrev Ag1:TV := .fn (.func 21) [] [.op 0 0 []]
theorem Af7 {tot p:List (Nat×List UInt8)} {x y:List (List UInt8)} {v:Nat} {tb:TV} (hx:p.length+x.length≤4000) (hy:y.length≤4000) (ht:tot=p++(x.map (fun l=>(1,l))++y.map (fun l=>(2,l)))) (hbl:Dl 3 tb=true) :
  vwp Tryz.prog D9 (Q4 CP (Aaf tot)) [(5,slS x),(6,slS y),(7,.op 0 0 []),(8,Ag1),(9,.val (.bool true)),(10,.op 2 0 [])] (TT v p++[.obj 0 tb]):=by
 unfold TT
 simp -dsimp (disch:=first | assumption | omega) only [↓Ai,Ad,Ag,Af,eq_self,Nat.reduceEqDiff,↓reduceIte,↓Bc]
 refine D6 (fun m e H=>∃ (i j:Nat) (p':List (Nat×List UInt8)) (v':Nat),m=(x.length - i)+(y.length - j)∧i≤x.length∧j≤y.length∧(i<x.length→j=0)∧tot=p'++((x.drop i).map (fun l=>(1,l))++(y.drop j).map (fun l=>(2,l)))∧p'.length+(x.length - i)+(y.length - j)≤8000 ∧
  e=[(5,slS x),(6,slS y),(7,.op 0 0 []),(8,Ag1),(9,.val (.bool true)),(10,.op 2 0 []),(11,i64 (i:Int)),(12,i64 (j:Int))]∧H=TT v' p'++[.obj 0 tb]) (x.length+y.length) ?_ ?_
 ·exact ⟨0,0,p,v,by omega,by omega,by omega,fun _=>rfl,by simpa using ht,by omega,rfl,rfl⟩
 ·rintro m e H ⟨i,j,p',v',rfl,hi,hj,hij,htot,hp,rfl,rfl⟩
  rcases Nat.lt_or_ge i x.length with hix | hix
  ·have hj0:=hij hix
   subst hj0
   have hxi:x[i]?=some x[i]:=List.getElem?_eq_getElem hix
   have fin:∀ g,EW 0 g=true→Rnd 3 [5,6,7,8,9,10,11,12] (Blk 2 (Thn Tryz.prog Ea (Q4 CP (Aaf tot)))) (fun m e H=>∃ (i j:Nat) (p':List (Nat×List UInt8)) (v':Nat),m=(x.length - i)+(y.length - j)∧i≤x.length∧j≤y.length∧(i<x.length→j=0)∧tot=p'++((x.drop i).map (fun l=>(1,l))++(y.drop j).map (fun l=>(2,l)))∧p'.length+(x.length - i)+(y.length - j)≤8000 ∧
     e=[(5,slS x),(6,slS y),(7,.op 0 0 []),(8,Ag1),(9,.val (.bool true)),(10,.op 2 0 []),(11,i64 (i:Int)),(12,i64 (j:Int))]∧H=TT v' p'++[.obj 0 tb]) (x.length - i+(y.length - 0)) .nor
     [(5,slS x),(6,slS y),(7,.op 0 0 []),(8,Ag1),(9,.val (.bool true)),(10,.op 2 0 []),(11,i64 ((i+1:Nat):Int)),(12,i64 ((0:Nat):Int))] (TT (v'+1) (p'++[(1,x[i])])++[.obj 0 tb]++[g]):=by
    intro g hg
    refine CJ (x.length - (i+1)+(y.length - 0)) 3 (by omega) (by omega) rfl ?_ ⟨i+1,0,p'++[(1,x[i])],v'+1,rfl,by omega,by omega,fun _=>rfl,?_,?_,rfl,rfl⟩
    ·show (EW 3 _ && (EW 3 _ && (Dl 3 tb && true)))=true
     rw [hbl]; rfl
    ·rw [htot,List.drop_eq_getElem_cons hix,List.map_cons]; simp only [List.append_assoc,List.cons_append,List.nil_append]
    ·rw [List.length_append,List.length_singleton]; omega
   unfold TT
   simp -dsimp (disch:=first | assumption | omega) only [↓Ai,Ad,Ag,Af,eq_self,Nat.reduceEqDiff,↓reduceIte,↓Bc]
   refine ER (fun h0 => ?_) (fun h0 => ?_)
   ·simp -dsimp (disch:=first | assumption | omega) only [↓Ai,Ad,Ag,Af,eq_self,Nat.reduceEqDiff,↓reduceIte,Ip,↓Bc,hxi]
    refine Aq.mono (Aks (k:=1) (s:=x[i]) (es:=p') (v:=v') (Hr:=[.obj 0 tb]) (by omega)) ?_
    rintro _ H' ⟨rfl,g,hg,rfl⟩
    simp -dsimp (disch:=first | assumption | omega) only [↓Ai,Ad,Ag,Af,eq_self,Nat.reduceEqDiff,↓reduceIte,Nat.reduceAdd]
    exact fin g hg
   ·simp -dsimp (disch:=first | assumption | omega) only [↓Ai,Ad,Ag,Af,eq_self,Nat.reduceEqDiff,↓reduceIte,Ip,↓Bc,hxi]
    refine Aq.mono (Aks (k:=1) (s:=x[i]) (es:=p') (v:=v') (Hr:=[.obj 0 tb]) (by omega)) ?_
    rintro _ H' ⟨rfl,g,hg,rfl⟩
    simp -dsimp (disch:=first | assumption | omega) only [↓Ai,Ad,Ag,Af,eq_self,Nat.reduceEqDiff,↓reduceIte,Nat.reduceAdd]
    exact fin g hg
  ·rcases Nat.lt_or_ge j y.length with hjy | hjy
   ·have hyj:y[j]?=some y[j]:=List.getElem?_eq_getElem hjy
    unfold TT
    simp -dsimp (disch:=first | assumption | omega) only [↓Ai,Ad,Ag,Af,eq_self,Nat.reduceEqDiff,↓reduceIte,Ip,↓Bc,hyj]
    refine Aq.mono (Aks (k:=2) (s:=y[j]) (es:=p') (v:=v') (Hr:=[.obj 0 tb]) (by omega)) ?_
    rintro _ H' ⟨rfl,g,hg,rfl⟩
    simp -dsimp (disch:=first | assumption | omega) only [↓Ai,Ad,Ag,Af,eq_self,Nat.reduceEqDiff,↓reduceIte,Nat.reduceAdd]
    refine CJ (x.length - i+(y.length - (j+1))) 3 (by omega) (by omega) rfl ?_ ⟨i,j+1,p'++[(2,y[j])],v'+1,rfl,by omega,by omega,fun _=>by omega,?_,?_,rfl,rfl⟩
    ·show (EW 3 _ && (EW 3 _ && (Dl 3 tb && true)))=true
     rw [hbl]; rfl
    ·rw [htot,List.drop_eq_getElem_cons hjy,List.drop_eq_nil_of_le hix,List.map_cons]; simp only [List.append_assoc,List.cons_append,List.nil_append,List.map_nil]
    ·rw [List.length_append,List.length_singleton]; omega
   ·have ht:tot=p':=by rw [htot,List.drop_eq_nil_of_le hix,List.drop_eq_nil_of_le hjy]; simp
    subst ht
    unfold TT
    simp -dsimp (disch:=first | assumption | omega) only [↓Ai,Ad,Ag,Af,eq_self,Nat.reduceEqDiff,↓reduceIte,↓Bc]
    exact ApC (Hr:=[.obj 0 tb])
theorem Aej {tot p:List (Nat×List UInt8)} {x y:List (List UInt8)} {v:Nat} {tb:TV} (hb:p.length+x.length≤4000) (hx:x.length≤2000) (hy:y.length≤2000) (ht:tot=p++eds x y) (htb:tb = .agg [i64 ((y.length+1:Nat):Int),.sl 1 ((AlC x y).map cel)]) :
  vwp Tryz.prog D9 (Q4 CP (Aaf tot)) [(5,slS x),(6,slS y),(7,.op 0 0 []),(8,Ag1),(9,.val (.bool false)),(10,.op 2 0 [])] (TT v p++[.obj 0 tb]):=by
 have hbl:Dl 3 tb=true:=by rw [htb]; rfl
 unfold TT
 simp -dsimp (disch:=first | assumption | omega) only [↓Ai,Ad,Ag,Af,eq_self,Nat.reduceEqDiff,↓reduceIte,↓Bc]
 refine D6 (fun m e H=>∃ (i j:Nat) (p':List (Nat×List UInt8)) (v':Nat),m=(x.length - i)+(y.length - j)∧i≤x.length∧j≤y.length∧tot=p'++eds (x.drop i) (y.drop j)∧p'.length+(x.length - i)+(y.length - j)≤8000 ∧
  e=[(5,slS x),(6,slS y),(7,.op 0 0 []),(8,Ag1),(9,.val (.bool false)),(10,.op 2 0 []),(11,i64 (i:Int)),(12,i64 (j:Int))]∧H=TT v' p'++[.obj 0 tb]) (x.length+y.length) ?_ ?_
 ·exact ⟨0,0,p,v,by omega,by omega,by omega,by simpa using ht,by omega,rfl,rfl⟩
 ·rintro m e H ⟨i,j,p',v',rfl,hi,hj,htot,hp,rfl,rfl⟩
  have cut:∀ (g:Ob) (i' j' k:Nat) (s:List UInt8),EW 0 g=true→i'≤x.length→j'≤y.length→x.length - i'+(y.length - j')<x.length - i+(y.length - j)→tot=(p'++[(k,s)])++eds (x.drop i') (y.drop j')→Rnd 3 [5,6,7,8,9,10,11,12] (Blk 2 (Thn Tryz.prog Ea (Q4 CP (Aaf tot)))) (fun m e H=>∃ (i j:Nat) (p':List (Nat×List UInt8)) (v':Nat),m=(x.length - i)+(y.length - j)∧i≤x.length∧j≤y.length∧tot=p'++eds (x.drop i) (y.drop j)∧p'.length+(x.length - i)+(y.length - j)≤8000 ∧
     e=[(5,slS x),(6,slS y),(7,.op 0 0 []),(8,Ag1),(9,.val (.bool false)),(10,.op 2 0 []),(11,i64 (i:Int)),(12,i64 (j:Int))]∧H=TT v' p'++[.obj 0 tb]) (x.length - i+(y.length - j)) .nor
     [(5,slS x),(6,slS y),(7,.op 0 0 []),(8,Ag1),(9,.val (.bool false)),(10,.op 2 0 []),(11,i64 (i':Int)),(12,i64 (j':Int))] (TT (v'+1) (p'++[(k,s)])++[.obj 0 tb]++[g]):=by
   intro g i' j' k s hg hi' hj' hm hto
   refine CJ (x.length - i'+(y.length - j')) 3 hm (by omega) rfl ?_ ⟨i',j',p'++[(k,s)],v'+1,rfl,hi',hj',hto,?_,rfl,rfl⟩
   ·show (EW 3 _ && (EW 3 _ && (Dl 3 tb && true)))=true
    rw [hbl]; rfl
   ·rw [List.length_append,List.length_singleton]; omega
  rcases Nat.lt_or_ge i x.length with hix | hix
  ·have hxi:x[i]?=some x[i]:=List.getElem?_eq_getElem hix
   rcases Nat.lt_or_ge j y.length with hjy | hjy
   ·have hyj:y[j]?=some y[j]:=List.getElem?_eq_getElem hjy
    unfold TT
    simp -dsimp (disch:=first | assumption | omega) only [↓Ai,Ad,Ag,Af,eq_self,Nat.reduceEqDiff,↓reduceIte,↓Bc,hxi,hyj]
    refine ER (fun he => ?_) (fun he => ?_)
    ·simp -dsimp (disch:=first | assumption | omega) only [↓Ai,Ad,Ag,Af,eq_self,Nat.reduceEqDiff,↓reduceIte,Ip,↓Bc,hxi]
     refine Aq.mono (Aks (k:=0) (s:=x[i]) (es:=p') (v:=v') (Hr:=[.obj 0 tb]) (by omega)) ?_
     rintro _ H' ⟨rfl,g,hg,rfl⟩
     simp -dsimp (disch:=first | assumption | omega) only [↓Ai,Ad,Ag,Af,eq_self,Nat.reduceEqDiff,↓reduceIte,Nat.reduceAdd]
     exact cut g (i+1) (j+1) 0 _ hg (by omega) (by omega) (by omega) (by rw [htot,AkZ hix hjy he,List.append_assoc]; rfl)
    ·have hw:Ar tb=2:=by rw [htb]; rfl
     have hag:UA tb=true:=by rw [htb]; rfl
     have htu:Ci tb=false:=by rw [htb]; rfl
     have b0:(x.length+1)*(y.length+1)≤2001*2001:=Nat.mul_le_mul (by omega) (by omega)
     have b1:=KO (n:=x.length) (m:=y.length) (i:=i+1) (j:=j) (by omega) (by omega)
     have b2:=KO (n:=x.length) (m:=y.length) (i:=i) (j:=j+1) (by omega) (by omega)
     have tA:CE Tryz.prog 23 [tb,i64 ((i+1:Nat):Int),i64 (j:Int)] (fun r=>r=i32 (tab (x.drop (i+1)) (y.drop j):Nat)):=by
      rw [htb]; exact Ud (by omega) (AcJ (by omega) (by omega))
     have tB:CE Tryz.prog 23 [tb,i64 (i:Int),i64 ((j+1:Nat):Int)] (fun r=>r=i32 (tab (x.drop i) (y.drop (j+1)):Nat)):=by
      rw [htb]; exact Ud (by omega) (AcJ (by omega) (by omega))
     simp -dsimp (disch:=first | assumption | omega) only [↓Ai,Ad,Ag,Af,eq_self,Nat.reduceEqDiff,↓reduceIte,↓Bc,hw,hag,htu]
     refine Agz (i32 (tab (x.drop (i+1)) (y.drop j):Nat)) ⟨tA.calls (by rw [htb]; rfl) (fun r hr=>⟨hr,rfl⟩),?_⟩
     simp -dsimp (disch:=first | assumption | omega) only [↓Ai,Ad,Ag,Af,eq_self,Nat.reduceEqDiff,↓reduceIte,hw,hag,htu]
     refine tB.calls (by rw [htb]; rfl) ?_
     rintro r rfl
     simp -dsimp (disch:=first | assumption | omega) only [↓Ai,Ad,Ag,Af,eq_self,Nat.reduceEqDiff,↓reduceIte]
     refine ER (fun hq => ?_) (fun hq => ?_)
     ·simp -dsimp (disch:=first | assumption | omega) only [↓Ai,Ad,Ag,Af,eq_self,Nat.reduceEqDiff,↓reduceIte,Ip,↓Bc,hxi]
      refine Aq.mono (Aks (k:=1) (s:=x[i]) (es:=p') (v:=v') (Hr:=[.obj 0 tb]) (by omega)) ?_
      rintro _ H' ⟨rfl,g,hg,rfl⟩
      simp -dsimp (disch:=first | assumption | omega) only [↓Ai,Ad,Ag,Af,eq_self,Nat.reduceEqDiff,↓reduceIte,Nat.reduceAdd]
      exact cut g (i+1) j 1 _ hg (by omega) (by omega) (by omega) (by rw [htot,AcZ hix (.inr ⟨hjy,he,by omega⟩),List.append_assoc]; rfl)
     ·simp -dsimp (disch:=first | assumption | omega) only [↓Ai,Ad,Ag,Af,eq_self,Nat.reduceEqDiff,↓reduceIte,Ip,↓Bc,hyj]
      refine Aq.mono (Aks (k:=2) (s:=y[j]) (es:=p') (v:=v') (Hr:=[.obj 0 tb]) (by omega)) ?_
      rintro _ H' ⟨rfl,g,hg,rfl⟩
      simp -dsimp (disch:=first | assumption | omega) only [↓Ai,Ad,Ag,Af,eq_self,Nat.reduceEqDiff,↓reduceIte,Nat.reduceAdd]
      exact cut g i (j+1) 2 _ hg (by omega) (by omega) (by omega) (by rw [htot,AfZ hjy (.inr ⟨hix,he,by omega⟩),List.append_assoc]; rfl)
   ·have hj2:j=y.length:=by omega
    subst hj2
    unfold TT
    simp -dsimp (disch:=first | assumption | omega) only [↓Ai,Ad,Ag,Af,eq_self,Nat.reduceEqDiff,↓reduceIte,Ip,↓Bc,hxi]
    refine Aq.mono (Aks (k:=1) (s:=x[i]) (es:=p') (v:=v') (Hr:=[.obj 0 tb]) (by omega)) ?_
    rintro _ H' ⟨rfl,g,hg,rfl⟩
    simp -dsimp (disch:=first | assumption | omega) only [↓Ai,Ad,Ag,Af,eq_self,Nat.reduceEqDiff,↓reduceIte,Nat.reduceAdd]
    exact cut g (i+1) y.length 1 _ hg (by omega) (by omega) (by omega) (by rw [htot,AcZ hix (.inl rfl),List.append_assoc]; rfl)
  ·rcases Nat.lt_or_ge j y.length with hjy | hjy
   ·have hyj:y[j]?=some y[j]:=List.getElem?_eq_getElem hjy
    unfold TT
    simp -dsimp (disch:=first | assumption | omega) only [↓Ai,Ad,Ag,Af,eq_self,Nat.reduceEqDiff,↓reduceIte,Ip,↓Bc,hyj]
    refine Aq.mono (Aks (k:=2) (s:=y[j]) (es:=p') (v:=v') (Hr:=[.obj 0 tb]) (by omega)) ?_
    rintro _ H' ⟨rfl,g,hg,rfl⟩
    simp -dsimp (disch:=first | assumption | omega) only [↓Ai,Ad,Ag,Af,eq_self,Nat.reduceEqDiff,↓reduceIte,Nat.reduceAdd]
    have hi2:i=x.length:=by omega
    subst hi2
    exact cut g x.length (j+1) 2 _ hg (by omega) (by omega) (by omega) (by rw [htot,AfZ hjy (.inl rfl),List.append_assoc]; rfl)
   ·have ht:tot=p':=by rw [htot,List.drop_eq_nil_of_le hix,List.drop_eq_nil_of_le hjy]; simp [eds]
    subst ht
    unfold TT
    simp -dsimp (disch:=first | assumption | omega) only [↓Ai,Ad,Ag,Af,eq_self,Nat.reduceEqDiff,↓reduceIte,↓Bc]
    exact ApC (Hr:=[.obj 0 tb])
end
section
open Go.RowKit
variable [A8]
def Du (a b:List UInt8):Bool:=decide (2000<(Ak a).length) || decide (2000<(Ak b).length)
theorem AmA {tot p:List (Nat×List UInt8)} {x y:List (List UInt8)} {v:Nat} {L:Bool} (hb:p.length+x.length≤4000) (hb2:p.length+y.length≤4000) (hs:L=false→x.length≤2000∧y.length≤2000) (ht:tot=p++edx L x y) (hne:∀ a∈x.head?,∀ b∈y.head?,a≠b) :
  vwp Tryz.prog G6 (Q4 CP (Aaf tot)) [(5,slS x),(6,slS y),(7,.op 0 0 []),(8,Ag1),(9,.val (.bool L))] (TT v p):=by
 cases L with
 | true =>
  have ht':tot=p++(x.map (fun l=>(1,l))++y.map (fun l=>(2,l))):=by rw [ht]; show p++edl x y=_; rw [ZT hne]
  have fin:=Af7 (v:=v) (tb := .agg [i64 ((0:Nat):Int),.val (.slice none 0 0)]) hb (by omega) ht' rfl
  unfold TT at fin ⊢
  simp -dsimp (disch:=first | assumption | omega) only [↓Ai,Ad,Ag,Af,eq_self,Nat.reduceEqDiff,↓reduceIte,Nat.reduceAdd,↓E9,↓Fb]
  exact fin
 | false =>
  obtain ⟨hx,hy⟩:=hs rfl
  have fin:=Aej (v:=v) (tb := .agg [i64 ((y.length+1:Nat):Int),.sl 1 ((AlC x y).map cel)]) hb hx hy ht rfl
  unfold TT at fin ⊢
  simp -dsimp (disch:=first | assumption | omega) only [↓Ai,Ad,Ag,Af,eq_self,Nat.reduceEqDiff,↓reduceIte,Nat.reduceAdd,↓E9,↓Fb]
  refine (Aso hx hy).calls rfl ?_
  rintro r rfl
  simp -dsimp (disch:=first | assumption | omega) only [↓Ai,Ad,Ag,Af,eq_self,Nat.reduceEqDiff,↓reduceIte,Nat.reduceAdd]
  exact fin
theorem AcG {a b:List UInt8} (ha:a.length≤4000) (hb:b.length≤4000) {p:List (Nat×List UInt8)} {x y:List (List UInt8)} {v:Nat} {q:TV} (hx:p.length+x.length≤(Ak a).length) (hy:p.length+y.length≤(Ak b).length) (ht:edx (Du a b) (Ak a) (Ak b)=p++edx (Du a b) x y) (hne:∀ a∈x.head?,∀ b∈y.head?,a≠b) :
  vwp Tryz.prog G5 (Q4 CP (Aaf (edx (Du a b) (Ak a) (Ak b)))) [(0,slB a),(1,slB b),(5,slS x),(6,slS y),(7,.op 0 0 []),(8,Ag1),(34,q)] (TT v p):=by
 have la:=BN a
 have lb:=BN b
 have hl:Du a b=false→(Ak a).length≤2000∧(Ak b).length≤2000:=by
  intro h; unfold Du at h; simp at h; exact h
 have fin:=AmA (L:=Du a b) (v:=v) (by omega) (by omega) (fun h=>⟨by have:=hl h; omega,by have:=hl h; omega⟩) ht hne
 simp -dsimp (disch:=first | assumption | omega) only [↓Ai,Ad,Ag,Af,eq_self,↓reduceIte,↓I8]
 refine (OD a ha).pure.calls rfl ?_
 rintro _ rfl
 simp -dsimp (disch:=first | assumption | omega) only [↓Ai,Ad,Ag,Af,eq_self,Nat.reduceEqDiff,↓reduceIte,reduceCtorEq]
 refine (OD b hb).pure.calls rfl ?_
 rintro _ rfl
 simp -dsimp (disch:=first | assumption | omega) only [↓Ai,Ad,Ag,Af,eq_self,Nat.reduceEqDiff,↓reduceIte]
 refine ER (fun h => ?_) (fun h => ?_)
 ·have e1:decide (2000<(Ak b).length)=Du a b:=by unfold Du; rw [Bool.eq_iff_iff]; simp; omega
  simp -dsimp (disch:=first | assumption | omega) only [↓Ai,Ad,Ag,Af,eq_self,Nat.reduceEqDiff,↓reduceIte,reduceCtorEq]
  rw [e1]; exact fin
 ·have e1:decide (2000<(Ak a).length)=Du a b:=by unfold Du; rw [Bool.eq_iff_iff]; simp; omega
  simp -dsimp (disch:=first | assumption | omega) only [↓Ai,Ad,Ag,Af,eq_self,Nat.reduceEqDiff,↓reduceIte,reduceCtorEq]
  rw [e1]; exact fin
theorem Abp {a b:List UInt8} (ha:a.length≤4000) (hb:b.length≤4000):Ku Tryz.prog 11 [slB a,slB b] (fun r=>r = .sl 2 ((edx (Du a b) (Ak a) (Ak b)).map ed)):=by
 have la:=BN a
 have lb:=BN b
 refine Aq.toFreshV (Zi (by simp) ?_)
 show vwp Tryz.prog OL (Q4 CP (Aaf (edx (Du a b) (Ak a) (Ak b)))) _ _
 simp -dsimp (disch:=first | assumption | omega) only [↓Ai,Ad,Ag,Af,eq_self,Nat.reduceEqDiff,↓reduceIte,Nat.reduceAdd,reduceCtorEq,↓Bc]
 refine (OD a ha).pure.calls rfl ?_
 rintro x rfl
 simp -dsimp (disch:=first | assumption | omega) only [↓Ai,Ad,Ag,Af,eq_self,Nat.reduceEqDiff,↓reduceIte,reduceCtorEq]
 refine (OD b hb).pure.calls rfl ?_
 rintro x rfl
 simp -dsimp (disch:=first | assumption | omega) only [↓Ai,Ad,Ag,Af,eq_self,Nat.reduceEqDiff,↓reduceIte,reduceCtorEq,↓Bc]
 refine D6 (fun m e H=>∃ (p:List (Nat×List UInt8)) (x y:List (List UInt8)) (v:Nat),m=x.length∧edx (Du a b) (Ak a) (Ak b)=p++edx (Du a b) x y∧p.length+x.length≤(Ak a).length∧p.length+y.length≤(Ak b).length ∧
  e=[(0,slB a),(1,slB b),(5,slS x),(6,slS y),(7,.op 0 0 []),(8,Ag1)]∧H=TT v p) (Ak a).length ?_ ?_
 ·exact ⟨[],Ak a,Ak b,0,rfl,rfl,by simp,by simp,rfl,rfl⟩
 ·rintro m e H ⟨p,x,y,v,rfl,h1,h2,h3,rfl,rfl⟩
  rcases x with _ | ⟨a1,x⟩
  ·simp -dsimp (disch:=first | assumption | omega) only [↓Ai,Ad,Ag,Af,eq_self,Nat.reduceLT,Nat.reduceEqDiff,↓reduceIte,reduceCtorEq,↓D5]
   exact AcG ha hb h2 h3 h1 (by simp)
  ·rcases y with _ | ⟨b1,y⟩
   ·simp -dsimp (disch:=first | assumption | omega) only [↓Ai,Ad,Ag,Af,eq_self,Nat.reduceLT,Nat.reduceEqDiff,↓reduceIte,reduceCtorEq,↓D5]
    exact AcG ha hb h2 h3 h1 (by simp)
   ·unfold TT
    simp -dsimp (disch:=first | assumption | omega) only [↓Ai,Ad,Ag,Af,eq_self,Nat.reduceEqDiff,↓reduceIte,reduceCtorEq,↓D5]
    refine ER (fun h => ?_) (fun h => ?_)
    ·subst h
     simp -dsimp (disch:=first | assumption | omega) only [↓Ai,Ad,Ag,Af,eq_self,Nat.reduceEqDiff,↓reduceIte,reduceCtorEq,Ip]
     refine Aq.mono (Aks (k:=0) (s:=a1) (es:=p) (v:=v) (Hr:=[]) (by omega)) ?_
     rintro _ H' ⟨rfl,g,hg,rfl⟩
     simp -dsimp (disch:=first | assumption | omega) only [↓Ai,Ad,Ag,Af,eq_self,Nat.reduceEqDiff,↓reduceIte,Nat.reduceAdd,reduceCtorEq,Nat.reduceLeDiff]
     refine CJ x.length 2 (by omega) (by omega) rfl rfl ⟨p++[(0,a1)],x,y,v+1,rfl,?_,?_,?_,rfl,rfl⟩
     ·rw [h1,AcW,List.append_assoc]; rfl
     ·simp only [List.length_append,List.length_cons,List.length_nil] at *; omega
     ·simp only [List.length_append,List.length_cons,List.length_nil] at *; omega
    ·simp -dsimp (disch:=first | assumption | omega) only [↓Ai,Af,eq_self,Nat.reduceEqDiff,↓reduceIte,reduceCtorEq]
     exact AcG ha hb h2 h3 h1 (by simpa using h)
end
section
open Go.RowKit
variable [A8]
theorem Ala (n:Nat):Lib.itoa (n:Int)=Lib.decDigits n:=by
 unfold Lib.itoa; rw [if_neg (by omega),Int.toNat_natCast]
theorem Aj6 [Aj] (n:Nat) (h:n≤1000000000):CE Tryz.prog 52 [i64 (n:Int)] (fun x=>x=ts (Lib.decDigits n)):=by
 have:=AoC (n:Int) (by omega) (by omega)
 rwa [Ala] at this
theorem AlB [Aj] (t n:Nat) (ht:t≤100000) (hn:n≤100000):CE Tryz.prog 39 [i64 (t:Int),i64 (n:Int)] (fun x=>x=ts (Em t n)):=by
 refine Aq.toPureV (Zv (by simp) ?_)
 have d1:=QU n
 have d2:=QU t
 have d3:=QU (t+1)
 by_cases h:0<n
 ·simp -dsimp (disch:=first | assumption | omega | (simp only [Ah];try omega)) only [↓Ai,Ad,Ag,Af,eq_self,Nat.reduceEqDiff,↓reduceIte,Nat.reduceAdd,reduceCtorEq,↓Ji]
  refine (Aj6 (t+1) (by omega)).calls rfl ?_
  rintro x rfl
  simp -dsimp (disch:=first | assumption | omega | (simp only [Ah];try omega)) only [↓Ai,Ad,Ag,Af,eq_self,Nat.reduceEqDiff,↓reduceIte,reduceCtorEq,Zr]
  refine (Aj6 n (by omega)).calls rfl ?_
  rintro x rfl
  simp -dsimp (disch:=first | assumption | omega | (simp only [Ah];try omega)) only [↓Ai,Ad,Ag,Af,eq_self,Nat.reduceEqDiff,↓reduceIte,↓Ji,Zr]
  unfold Em; rw [if_pos h]
 ·simp -dsimp (disch:=first | assumption | omega | (simp only [Ah];try omega)) only [↓Ai,Ad,Ag,Af,eq_self,Nat.reduceEqDiff,↓reduceIte,Nat.reduceAdd,reduceCtorEq,↓Ji]
  refine (Aj6 t (by omega)).calls rfl ?_
  rintro x rfl
  simp -dsimp (disch:=first | assumption | omega | (simp only [Ah];try omega)) only [↓Ai,Ad,Ag,Af,eq_self,Nat.reduceEqDiff,↓reduceIte,reduceCtorEq,Zr]
  refine (Aj6 n (by omega)).calls rfl ?_
  rintro x rfl
  simp -dsimp (disch:=first | assumption | omega | (simp only [Ah];try omega)) only [↓Ai,Ad,Ag,Af,eq_self,Nat.reduceEqDiff,↓reduceIte,↓Ji,Zr]
  unfold Em; rw [if_neg h]
theorem Xd (l:List Ed) (a b:Nat) (hl:l.length≤100000):CE Tryz.prog 28 [.agg [i64 (a:Int),i64 (b:Int),.sl 2 (l.map ed)]] (fun x=>x = .tup [i64 (cA l:Int),i64 (cB l:Int)]):=by
 refine Aq.toPureV (Iw (by simp) ?_)
 simp -dsimp (disch:=first | assumption | omega) only [↓Ai,Ad,Ag,Af,eq_self,Nat.reduceEqDiff,↓reduceIte,Nat.reduceAdd,↓AZ]
 refine D6 (fun q e H=>∃ i:Nat,q=l.length - i∧i≤l.length∧e=[(2,i64 (cA (l.take i):Int)),(3,i64 (cB (l.take i):Int)),(7,.sl 2 (l.map ed)),(8,i64 (l.length:Int)),(9,i64 (i:Int))]∧H=[.obj 0 (.agg [i64 (a:Int),i64 (b:Int),.sl 2 (l.map ed)])]) l.length ?_ ?_
 ·exact ⟨0,by simp,by simp,by rw [List.take_zero]; rfl,rfl⟩
 ·rintro q e H ⟨i,rfl,hi,rfl,rfl⟩
  have b1:=Aa4 (l.take i)
  have b2:=Abk (l.take i)
  have b3:(l.take i).length≤l.length:=by simp; omega
  by_cases h:i<l.length
  ·obtain ⟨x,hx⟩:∃ x,l[i]?=some x:=⟨_,List.getElem?_eq_getElem h⟩
   have hs:l.take (i+1)=l.take i++[x]:=by
    obtain ⟨_,rfl⟩:=List.getElem?_eq_some_iff.1 hx
    exact List.take_succ_eq_append_getElem h
   have c1:=AdK (l.take i) [x]
   have c2:=AgU (l.take i) [x]
   rw [←hs,Aa0] at c1
   rw [←hs,AdN] at c2
   by_cases k2:x.1=2
   ·have k1:¬ x.1=1:=by omega
    rw [if_pos k2] at c1; rw [if_neg k1] at c2
    simp -dsimp (disch:=first | assumption | omega) only [↓Ai,Ad,Ag,Af,eq_self,Nat.reduceEqDiff,↓reduceIte,Nat.reduceAdd,↓AZ,hx,Zt]
    exact CJ (l.length - (i+1)) 1 (by omega) (by simp) rfl rfl ⟨i+1,rfl,by omega,by rw [c1,c2]; rfl,rfl⟩
   ·rw [if_neg k2] at c1
    by_cases k1:x.1=1
    ·rw [if_pos k1] at c2
     simp -dsimp (disch:=first | assumption | omega) only [↓Ai,Ad,Ag,Af,eq_self,Nat.reduceEqDiff,↓reduceIte,Nat.reduceAdd,↓AZ,hx,Zt]
     exact CJ (l.length - (i+1)) 1 (by omega) (by simp) rfl rfl ⟨i+1,rfl,by omega,by rw [c1,c2]; rfl,rfl⟩
    ·rw [if_neg k1] at c2
     simp -dsimp (disch:=first | assumption | omega) only [↓Ai,Ad,Ag,Af,eq_self,Nat.reduceEqDiff,↓reduceIte,Nat.reduceAdd,↓AZ,hx,Zt]
     exact CJ (l.length - (i+1)) 1 (by omega) (by simp) rfl rfl ⟨i+1,rfl,by omega,by rw [c1,c2]; rfl,rfl⟩
  ·obtain rfl:i=l.length:=by omega
   rw [List.take_length]
   simp -dsimp (disch:=first | assumption | omega) only [↓Ai,Ad,Ag,Af,eq_self,Nat.reduceEqDiff,↓reduceIte,↓AZ]
end
section
open Go.RowKit
variable [A8]
def cl (n:Nat):TV:=i64 (n:Int)
theorem Ad6 {n:Nat}:cl n=i64 (n:Int):=by unfold cl; rfl
end
end Go.Proofs.YtkoilgokgaigbaaGreatDoor
