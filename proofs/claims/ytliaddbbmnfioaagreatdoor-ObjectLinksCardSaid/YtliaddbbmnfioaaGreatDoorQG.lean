/- What the proof of ObjectLinksCard stands on (texts merged; names shortened by a program): part 7. -/
import Derived.Test.YtliaddbbmnfioaaGreatDoorQF
import Derived.Test.YtliaddbbmnfioaaGreatDoorQE
import Derived.Test.YtliaddbbmnfioaaGreatDoorQD
import Derived.Test.YtliaddbbmnfioaaGreatDoorProg
import Derived.KernelRfl
import Derived.WalkKit
import Derived.Lib.Builder
import Derived.Lib.UnsafeStr
import Derived.Laws.Externs
import Derived.Shelf.RegionOpenPlain
import Derived.Shelf.Lay
import Derived.Lib.Bytealg
import Derived.LaidEql
import Derived.Stop.Asserts
import Derived.RowKitTokens
import Derived.Shelf.SlSortCmp.NoneTotal
import Derived.Ground.SlsfProg
set_option linter.defProp false
set_option linter.unusedSectionVars false
set_option linter.unusedSimpArgs false
set_option linter.unusedVariables false
namespace Go.Proofs.YtliaddbbmnfioaaGreatDoor
section
open Go.RowKit
variable [Cc] [AX]
theorem AC9 (n:Nat):(Lib.decDigits n).length≤n+1:=by
 induction n using Nat.strongRecOn with
 | _ n ih =>
  by_cases h:n<10
  ·rw [Lib.decDigits_one h]; simp
  ·rw [Lib.decDigits,dif_neg h,List.length_append]
   have:=ih (n / 10) (by omega)
   simp
   omega
theorem AlV {n m:List UInt8} {t z:Int}:I8 ⟨n,m,t,z⟩=n++[32,60]++m++[62,32]++Lib.decDigits t.toNat++[32]++[if z<0 then 45 else 43]++AmS z.natAbs:=by
 simp [I8,LH,Aqw]
abbrev OL (p:Per):TV := .agg [ts p.name,ts p.mail,i64 p.time,i64 p.zone]
def Qq (p:Per):Prop:=(-9223372036854775808≤p.time∧p.time≤9223372036854775807)∧(-9223372036854775808≤p.zone∧p.zone≤9223372036854775807)
def Blo (p:Per) (r:TV):Prop:=(EW p→r = .tup [ts (I8 p),tb true])∧(¬ EW p→r = .tup [ts [],tb false])
theorem Bu1 {z:Nat} (h:z≤840):Jh 3 .quo (.int .i64 (z:Int)) (.int .i64 ((60:Nat):Int))=some (.int .i64 ((z / 60:Nat):Int)):=Bji (by omega) (by omega)
theorem AtH (p:Per) (hp:Qq p):CE Tryz.prog 26 [OL p] (Blo p):=by
 refine BD.toPureV (Alz (by simp) ?_)
 obtain ⟨n,m,t,z⟩:=p
 obtain ⟨⟨ht1,ht2⟩,hz1,hz2⟩:=hp
 unfold Blo EW
 simp only at *
 have hpn:=BpL n
 have hpm:=BpL m
 by_cases h1:MV n
 case neg =>
  simp -dsimp (disch:=first | assumption | omega | (simp only [Aa];try omega)) only [↓AB,Aj,AA,Az,eq_self,Nat.reduceEqDiff,↓reduceIte,↓Eg,↓Dn]
  refine hpn.calls rfl fun x hx => ?_
  subst hx
  simp -dsimp (disch:=first | assumption | omega | (simp only [Aa];try omega)) only [↓AB,Aj,AA,Az,eq_self,Nat.reduceEqDiff,↓reduceIte,decide_eq_false h1,↓Dw]
  exact ⟨fun h=>absurd h.1 h1,fun _=>by trivial⟩
 by_cases h2:MV m
 case neg =>
  simp -dsimp (disch:=first | assumption | omega | (simp only [Aa];try omega)) only [↓AB,Aj,AA,Az,eq_self,Nat.reduceEqDiff,↓reduceIte,↓Eg,↓Dn]
  refine hpn.calls rfl fun x hx => ?_
  subst hx
  simp -dsimp (disch:=first | assumption | omega | (simp only [Aa];try omega)) only [↓AB,Aj,AA,Az,eq_self,Nat.reduceEqDiff,↓reduceIte,Nat.reduceAdd,decide_eq_true h1]
  refine hpm.calls rfl fun x hx => ?_
  subst hx
  simp -dsimp (disch:=first | assumption | omega | (simp only [Aa];try omega)) only [↓AB,Aj,AA,Az,eq_self,Nat.reduceEqDiff,↓reduceIte,decide_eq_false h2,↓Dw]
  exact ⟨fun h=>absurd h.2.1 h2,fun _=>by trivial⟩
 by_cases h3:t<0
 case pos =>
  simp -dsimp (disch:=first | assumption | omega | (simp only [Aa];try omega)) only [↓AB,Aj,AA,Az,eq_self,Nat.reduceEqDiff,↓reduceIte,↓Eg,↓Dn]
  refine hpn.calls rfl fun x hx => ?_
  subst hx
  simp -dsimp (disch:=first | assumption | omega | (simp only [Aa];try omega)) only [↓AB,Aj,AA,Az,eq_self,Nat.reduceEqDiff,↓reduceIte,Nat.reduceAdd,decide_eq_true h1]
  refine hpm.calls rfl fun x hx => ?_
  subst hx
  simp -dsimp (disch:=first | assumption | omega | (simp only [Aa];try omega)) only [↓AB,Aj,AA,Az,eq_self,Nat.reduceEqDiff,↓reduceIte,Nat.reduceAdd,decide_eq_true h2,↓Dw]
  exact ⟨fun h=>by omega,fun _=>by trivial⟩
 by_cases h4:t > 1099511627776
 case pos =>
  simp -dsimp (disch:=first | assumption | omega | (simp only [Aa];try omega)) only [↓AB,Aj,AA,Az,eq_self,Nat.reduceEqDiff,↓reduceIte,↓Eg,↓Dn]
  refine hpn.calls rfl fun x hx => ?_
  subst hx
  simp -dsimp (disch:=first | assumption | omega | (simp only [Aa];try omega)) only [↓AB,Aj,AA,Az,eq_self,Nat.reduceEqDiff,↓reduceIte,Nat.reduceAdd,decide_eq_true h1]
  refine hpm.calls rfl fun x hx => ?_
  subst hx
  simp -dsimp (disch:=first | assumption | omega | (simp only [Aa];try omega)) only [↓AB,Aj,AA,Az,eq_self,Nat.reduceEqDiff,↓reduceIte,Nat.reduceAdd,decide_eq_true h2,↓Dw]
  exact ⟨fun h=>by omega,fun _=>by trivial⟩
 by_cases h5:z < -840
 case pos =>
  simp -dsimp (disch:=first | assumption | omega | (simp only [Aa];try omega)) only [↓AB,Aj,AA,Az,eq_self,Nat.reduceEqDiff,↓reduceIte,↓Eg,↓Dn]
  refine hpn.calls rfl fun x hx => ?_
  subst hx
  simp -dsimp (disch:=first | assumption | omega | (simp only [Aa];try omega)) only [↓AB,Aj,AA,Az,eq_self,Nat.reduceEqDiff,↓reduceIte,Nat.reduceAdd,decide_eq_true h1]
  refine hpm.calls rfl fun x hx => ?_
  subst hx
  simp -dsimp (disch:=first | assumption | omega | (simp only [Aa];try omega)) only [↓AB,Aj,AA,Az,eq_self,Nat.reduceEqDiff,↓reduceIte,Nat.reduceAdd,decide_eq_true h2,↓Dw]
  exact ⟨fun h=>by omega,fun _=>by trivial⟩
 by_cases h6:z > 840
 case pos =>
  simp -dsimp (disch:=first | assumption | omega | (simp only [Aa];try omega)) only [↓AB,Aj,AA,Az,eq_self,Nat.reduceEqDiff,↓reduceIte,↓Eg,↓Dn]
  refine hpn.calls rfl fun x hx => ?_
  subst hx
  simp -dsimp (disch:=first | assumption | omega | (simp only [Aa];try omega)) only [↓AB,Aj,AA,Az,eq_self,Nat.reduceEqDiff,↓reduceIte,Nat.reduceAdd,decide_eq_true h1]
  refine hpm.calls rfl fun x hx => ?_
  subst hx
  simp -dsimp (disch:=first | assumption | omega | (simp only [Aa];try omega)) only [↓AB,Aj,AA,Az,eq_self,Nat.reduceEqDiff,↓reduceIte,Nat.reduceAdd,decide_eq_true h2,↓Dw]
  exact ⟨fun h=>by omega,fun _=>by trivial⟩
 have hneg:∀ k:Nat,k≤840→unV .neg (.int .i64 (-(k:Int)))=some (.int .i64 (k:Int)):=fun k hk=>by
  have e:Op.unary .neg (.int .i64 (-(k:Int))) = .pure (.int .i64 (IntKind.i64.wrap (0 - -(k:Int)))):=rfl
  unfold unV
  rw [e,Int.sub_neg,Int.zero_add,Gl (by omega) (by omega)]
 have ln:n.length≤60:=h1.1
 have lm:m.length≤60:=h2.1
 obtain ⟨tn,rfl⟩:∃ tn:Nat,t=(tn:Int):=⟨t.toNat,by omega⟩
 have hti:Lib.itoa (tn:Int)=Lib.decDigits tn:=by unfold Lib.itoa; rw [if_neg (by omega),Int.toNat_natCast]
 have ltn:=AC9 tn
 have hfi:=AEH (tn:Int) (by omega) (by omega)
 rw [hti] at hfi
 simp -dsimp (disch:=first | assumption | omega | (simp only [Aa];try omega)) only [↓AB,Aj,AA,Az,eq_self,Nat.reduceEqDiff,↓reduceIte,↓Eg,↓Dn]
 refine hpn.calls rfl fun x hx => ?_
 subst hx
 simp -dsimp (disch:=first | assumption | omega | (simp only [Aa];try omega)) only [↓AB,Aj,AA,Az,eq_self,Nat.reduceEqDiff,↓reduceIte,Nat.reduceAdd,decide_eq_true h1]
 refine hpm.calls rfl fun x hx => ?_
 subst hx
 by_cases c:z<0
 ·obtain ⟨zn,rfl⟩:∃ zn:Nat,z = -(zn:Int):=⟨(-z).toNat,by omega⟩
  simp -dsimp (disch:=first | assumption | omega | (simp only [Aa];try omega)) only [↓AB,Aj,AA,Az,eq_self,Nat.reduceEqDiff,↓reduceIte,Nat.reduceAdd,decide_eq_true h2,↓Oh,↓Og]
  simp -dsimp (disch:=first | assumption | omega | (simp only [Aa];try omega)) only [↓AB,Aj,AA,Az,eq_self,Nat.reduceEqDiff,↓reduceIte,hneg zn (by omega),Bu1 (show zn≤840 by omega),↓NP]
  refine (BtQ ((10000+zn / 60*100+zn % 60:Nat):Int) (by omega) (by omega)).calls rfl fun x hx => ?_
  subst hx
  have hit:Lib.itoa ((10000+zn / 60*100+zn % 60:Nat):Int)=Lib.decDigits (10000+zn / 60*100+zn % 60):=by unfold Lib.itoa; rw [if_neg (by omega),Int.toNat_natCast]
  have hzi:=AzD (show zn≤840 by omega)
  rw [hit]
  have hdl:(Lib.decDigits (10000+zn / 60*100+zn % 60)).length=5:=by rw [Bxr (by omega) (by omega)]; rfl
  have hta:(AmS zn).take 4=AmS zn:=rfl
  have lz:=AcX zn
  generalize Lib.decDigits (10000+zn / 60*100+zn % 60)=dd at *
  simp -dsimp (disch:=first | assumption | omega | (simp only [Aa];try omega)) only [↓AB,Aj,AA,Az,eq_self,Nat.reduceEqDiff,Nat.reduceSub,↓reduceIte,Nat.reduceAdd,Nat.reduceLeDiff,A8,hdl,hzi,↓Oj,Aam]
  refine ⟨_,hfi.calls rfl fun r hr=>⟨hr,rfl⟩,?_⟩
  simp -dsimp (disch:=first | assumption | omega | (simp only [Aa];try omega)) only [↓AB,Aj,AA,Az,eq_self,Nat.reduceEqDiff,↓reduceIte,Aam,↓Dw]
  refine ⟨fun _ => ?_,?_⟩
  rotate_left
  ·exact fun h=>absurd ⟨h1,h2,by omega,by omega,by omega⟩ h
  rw [AlV,if_pos (by omega),Int.natAbs_neg,Int.natAbs_natCast,Int.toNat_natCast]
 ·obtain ⟨zn,rfl⟩:∃ zn:Nat,z=(zn:Int):=⟨z.toNat,by omega⟩
  simp -dsimp (disch:=first | assumption | omega | (simp only [Aa];try omega)) only [↓AB,Aj,AA,Az,eq_self,Nat.reduceEqDiff,↓reduceIte,Nat.reduceAdd,decide_eq_true h2,↓Oh,↓Og,↓NP,Bu1 (show zn≤840 by omega)]
  refine (BtQ ((10000+zn / 60*100+zn % 60:Nat):Int) (by omega) (by omega)).calls rfl fun x hx => ?_
  subst hx
  have hit:Lib.itoa ((10000+zn / 60*100+zn % 60:Nat):Int)=Lib.decDigits (10000+zn / 60*100+zn % 60):=by unfold Lib.itoa; rw [if_neg (by omega),Int.toNat_natCast]
  have hzi:=AzD (show zn≤840 by omega)
  rw [hit]
  have hdl:(Lib.decDigits (10000+zn / 60*100+zn % 60)).length=5:=by rw [Bxr (by omega) (by omega)]; rfl
  have hta:(AmS zn).take 4=AmS zn:=rfl
  have lz:=AcX zn
  generalize Lib.decDigits (10000+zn / 60*100+zn % 60)=dd at *
  simp -dsimp (disch:=first | assumption | omega | (simp only [Aa];try omega)) only [↓AB,Aj,AA,Az,eq_self,Nat.reduceEqDiff,Nat.reduceSub,↓reduceIte,Nat.reduceAdd,Nat.reduceLeDiff,A8,hdl,hzi,↓Oj,Aam]
  refine ⟨_,hfi.calls rfl fun r hr=>⟨hr,rfl⟩,?_⟩
  simp -dsimp (disch:=first | assumption | omega | (simp only [Aa];try omega)) only [↓AB,Aj,AA,Az,eq_self,Nat.reduceEqDiff,↓reduceIte,Aam,↓Dw]
  refine ⟨fun _ => ?_,?_⟩
  rotate_left
  ·exact fun h=>absurd ⟨h1,h2,by omega,by omega,by omega⟩ h
  rw [AlV,if_neg (by omega),Int.natAbs_natCast,Int.toNat_natCast]
end
section
open Go.RowKit
variable [Cc] [AX] [Ba] [Bd] [GH]
section
omit [Cc] [AX] [Ba] [Bd] [GH]
theorem ABK (s p:List UInt8):(Lib.cut s p).1.length≤s.length∧(Lib.cut s p).2.1.length≤s.length:=by
 unfold Lib.cut
 split
 ·simp; omega
 ·simp
end
theorem Bj1 {s:List UInt8} {n:Nat} (h:Zi s=some n):n<4611686018427387904:=by
 unfold Zi pU at h
 split at h
 ·rename_i m hm
  split at hm
  ·rename_i h3
   split at h
   ·cases h; cases hm; exact h3.2.2
   ·cases h
  ·cases hm
 ·cases h
def Ava (s:List UInt8) (r:TV):Prop:=(∀ p,EW p→I8 p=s→r = .tup [OL p,tb true])∧((∀ p,EW p→I8 p≠s)→∃ q,Qq q∧r = .tup [OL q,tb false])
theorem ABj (s:List UInt8) (hs:s.length≤1000000):CE Tryz.prog 106 [ts s] (Ava s):=by
 refine BD.toPureV (Amh (by simp) ?_)
 simp -dsimp (disch:=first | assumption | omega | (simp only [Aa];try omega)) only [↓AB,Aj,AA,Az,eq_self,Nat.reduceEqDiff,↓reduceIte,reduceCtorEq,↓AlD,↓AbM]
 refine (Bo0 s [32,60] hs).calls rfl fun x hx => ?_
 subst hx
 obtain ⟨l1,l1'⟩:=ABK s [32,60]
 obtain ⟨l2,l2'⟩:=ABK (Lib.cut s [32,60]).2.1 [62,32]
 obtain ⟨l3,l3'⟩:=ABK (Lib.cut (Lib.cut s [32,60]).2.1 [62,32]).2.1 [32]
 have hex:∀ p,EW p→I8 p=s→(Lib.cut s [32,60]).2.2=true∧(Lib.cut (Lib.cut s [32,60]).2.1 [62,32]).2.2=true∧(Lib.cut (Lib.cut (Lib.cut s [32,60]).2.1 [62,32]).2.1 [32]).2.2=true
   ∧ Zi (Lib.cut (Lib.cut (Lib.cut s [32,60]).2.1 [62,32]).2.1 [32]).1=some p.time.toNat∧(Lib.cut (Lib.cut (Lib.cut s [32,60]).2.1 [62,32]).2.1 [32]).2.1=LH p
   ∧ (Lib.cut s [32,60]).1=p.name∧(Lib.cut (Lib.cut s [32,60]).2.1 [62,32]).1=p.mail:=by
  rintro p hp rfl
  obtain ⟨c1,c2,c3,c4⟩:=Ayj hp
  rw [c1,c2,c3]
  exact ⟨rfl,rfl,rfl,c4,rfl,rfl,rfl⟩
 have hc2:=Bo0 (Lib.cut s [32,60]).2.1 [62,32] (by omega)
 have hc3:=Bo0 (Lib.cut (Lib.cut s [32,60]).2.1 [62,32]).2.1 [32] (by omega)
 generalize hr1:Lib.cut s [32,60]=r1 at *
 obtain ⟨n,rest,a⟩:=r1
 simp only at *
 simp -dsimp (disch:=first | assumption | omega | (simp only [Aa];try omega)) only [↓AB,Aj,AA,Az,eq_self,Nat.reduceEqDiff,↓reduceIte,reduceCtorEq,↓Adk]
 refine hc2.calls rfl fun x hx => ?_
 subst hx
 generalize hr2:Lib.cut rest [62,32]=r2 at *
 obtain ⟨m,rest2,b⟩:=r2
 simp only at *
 simp -dsimp (disch:=first | assumption | omega | (simp only [Aa];try omega)) only [↓AB,Aj,AA,Az,eq_self,Nat.reduceEqDiff,↓reduceIte,reduceCtorEq,↓Adw]
 refine hc3.calls rfl fun x hx => ?_
 subst hx
 generalize hr3:Lib.cut rest2 [32]=r3 at *
 obtain ⟨tm,zn,c⟩:=r3
 simp only at *
 simp -dsimp (disch:=first | assumption | omega | (simp only [Aa];try omega)) only [↓AB,Aj,AA,Az,eq_self,Nat.reduceEqDiff,↓reduceIte,reduceCtorEq,↓AfS]
 refine (Bon tm (by omega)).calls rfl fun x hx => ?_
 have no:∀ {r:TV},(¬ (a=true∧b=true∧c=true∧(∃ t,Zi tm=some t)∧zn.length=5))→(∃ q,Qq q∧r = .tup [OL q,tb false])→Ava s r:=fun {r} h hq=>by
  refine ⟨fun p hp e => ?_,fun _=>hq⟩
  obtain ⟨e1,e2,e3,e4,e5,_⟩:=hex p hp e
  exact absurd ⟨e1,e2,e3,⟨_,e4⟩,by rw [e5]; rfl⟩ h
 have f0:Qq ⟨[],[],0,0⟩:=⟨⟨by decide,by decide⟩,by decide,by decide⟩
 cases hd:Zi tm with
 | none =>
  obtain ⟨z,rfl⟩:=hx.2 hd
  have hno:¬ (a=true∧b=true∧c=true∧(∃ t,Zi tm=some t)∧zn.length=5):=fun h=>by
   obtain ⟨t,ht⟩:=h.2.2.2.1
   rw [hd] at ht; cases ht
  simp -dsimp (disch:=first | assumption | omega | (simp only [Aa];try omega)) only [↓AB,Aj,AA,Az,eq_self,Nat.reduceEqDiff,↓reduceIte,reduceCtorEq,↓KW]
  cases a<;>cases b<;>cases c
  all_goals
   simp -dsimp (disch:=first | assumption | omega | (simp only [Aa];try omega)) only [↓AB,Aj,AA,Az,eq_self,Nat.reduceEqDiff,↓reduceIte,Nat.reduceAdd,reduceCtorEq,↓BV]
   exact no hno ⟨⟨[],[],0,0⟩,f0,rfl⟩
 | some t =>
  rw [hx.1 t hd]
  have ht62:=Bj1 hd
  by_cases hgo:a=true∧b=true∧c=true∧zn.length=5
  case neg =>
   have hno:¬ (a=true∧b=true∧c=true∧(∃ t,Zi tm=some t)∧zn.length=5):=fun h=>hgo ⟨h.1,h.2.1,h.2.2.1,h.2.2.2.2⟩
   simp -dsimp (disch:=first | assumption | omega | (simp only [Aa];try omega)) only [↓AB,Aj,AA,Az,eq_self,Nat.reduceEqDiff,↓reduceIte,reduceCtorEq,↓KW]
   cases a<;>cases b<;>cases c
   all_goals
    first
    | (
     simp -dsimp (disch:=first | assumption | omega | (simp only [Aa];try omega)) only [↓AB,Aj,AA,Az,eq_self,Nat.reduceEqDiff,↓reduceIte,Nat.reduceAdd,reduceCtorEq,A8,↓BV]
     exact no hno ⟨⟨[],[],0,0⟩,f0,rfl⟩)
    | (
     have h5:¬ zn.length=5:=fun h=>hgo ⟨rfl,rfl,rfl,h⟩
     simp -dsimp (disch:=first | assumption | omega | (simp only [Aa];try omega)) only [↓AB,Aj,AA,Az,eq_self,Nat.reduceEqDiff,↓reduceIte,Nat.reduceAdd,reduceCtorEq,A8,↓BV]
     exact no hno ⟨⟨[],[],0,0⟩,f0,rfl⟩)
  obtain ⟨rfl,rfl,rfl,h5⟩:=hgo
  obtain ⟨z0,zr,rfl,hz4⟩:∃ z0 zr,zn=z0::zr∧zr.length=4:=by
   cases zn with
   | nil=>simp at h5
   | cons z0 zr=>exact ⟨z0,zr,rfl,by simpa using h5⟩
  simp -dsimp (disch:=first | assumption | omega | (simp only [Aa];try omega)) only [↓AB,Aj,AA,Az,eq_self,Nat.reduceEqDiff,↓reduceIte,reduceCtorEq,Nat.reduceLeDiff,A8,↓KW,↓AcN]
  refine (AAW zr (by omega)).calls rfl fun x hx => ?_
  obtain ⟨v,er,hv,rfl,her⟩:∃ (v:Nat) (er:TV),v≤1048575∧x = .tup [.val (.int .u64 (v:Int)),er]∧((er = .val .nilIface∧pV zr=some v)∨(er = .ifc 229 .any∧pV zr=none)):=by
   cases hp:pV zr with
   | some v =>
    refine ⟨v,_,?_,hx.1 v hp,.inl ⟨rfl,rfl⟩⟩
    unfold pV at hp
    split at hp
    ·rename_i h3; cases hp; have:=h3.2.2; omega
    ·cases hp
   | none =>
    obtain ⟨m,hm,rfl⟩:=hx.2 hp
    exact ⟨m,_,hm,rfl,.inr ⟨rfl,rfl⟩⟩
  have hwr:IntKind.i64.wrap ((v / 100*60+v % 100:Nat):Int)=((v / 100*60+v % 100:Nat):Int):=Gl (by omega) (by omega)
  have hq:CG er=1∧lays er=true∧Ar6 er=false∧Ie er=false:=by
   rcases her with ⟨rfl,_⟩ | ⟨rfl,_⟩<;>exact ⟨rfl,rfl,rfl,rfl⟩
  obtain ⟨w1,w2,w3,w4⟩:=hq
  simp -dsimp (disch:=first | assumption | omega | (simp only [Aa];try omega)) only [↓AB,Aj,AA,Az,eq_self,Nat.reduceEqDiff,↓reduceIte,Nat.reduceAdd,reduceCtorEq,↓Aen,ACD,AuE,Bnm,hwr,↓Ae9]
  have hzone:∀ p,EW p→I8 p=s→zr=AmS p.zone.natAbs∧z0=Aqw p.zone∧v / 100*60+v % 100=p.zone.natAbs∧pV zr≠none∧n=p.name∧m=p.mail∧(t:Int)=p.time:=by
   intro p hp e
   obtain ⟨_,_,_,e4,e5,e6,e7⟩:=hex p hp e
   unfold LH at e5
   obtain ⟨e8,e9⟩:=List.cons.inj e5
   obtain ⟨_,_,g1,_,g2,g3⟩:=hp
   have hn:=Ax4 (show p.zone.natAbs≤840 by omega)
   rw [←e9] at hn
   have hvv:v=p.zone.natAbs / 60*100+p.zone.natAbs % 60:=by
    rcases her with ⟨_,h⟩ | ⟨_,h⟩
    ·rw [hn] at h; exact (Option.some.inj h).symm
    ·rw [hn] at h; cases h
   have htt:t=p.time.toNat:=Option.some.inj (hd.symm.trans e4)
   refine ⟨e9,e8,?_,by rw [hn]; simp,e6,e7,by omega⟩
   rw [hvv]
   exact Au4
  by_cases hz0:z0.toNat=45
  ·obtain ⟨q,hq⟩:∃ q:Per,q=⟨n,m,(t:Int),-((v / 100*60+v % 100:Nat):Int)⟩:=⟨_,rfl⟩
   have hz45:z0=45:=UInt8.toNat_inj.1 hz0
   have key:∀ p,EW p→I8 p=s→p=q∧pV zr≠none:=fun p hp e=>by
    obtain ⟨_,h2,h3,h4,h5,h6,h7⟩:=hzone p hp e
    refine ⟨?_,h4⟩
    rw [hz45] at h2
    unfold Aqw at h2
    split at h2
    ·obtain ⟨pn,pm,pt,pz⟩:=p
     simp only at *
     rw [hq,h5,h6,h7,h3]
     congr 1
     omega
    ·cases h2
   have hfit:Qq q:=by subst hq; exact ⟨⟨by simp only; omega,by simp only; omega⟩,by simp only; omega,by simp only; omega⟩
   have hneg:unV .neg (.int .i64 ((v / 100*60+v % 100:Nat):Int))=some (.int .i64 (-((v / 100*60+v % 100:Nat):Int))):=by
    have e:Op.unary .neg (.int .i64 ((v / 100*60+v % 100:Nat):Int)) = .pure (.int .i64 (IntKind.i64.wrap (0 - ((v / 100*60+v % 100:Nat):Int)))):=rfl
    unfold unV
    rw [e,Int.zero_sub,Gl (by omega) (by omega)]
   have hqT:OL q = .agg [ts n,ts m,i64 (t:Int),i64 (-((v / 100*60+v % 100:Nat):Int))]:=by rw [hq]
   simp -dsimp (disch:=first | assumption | omega | (simp only [Aa];try omega)) only [↓AB,Aj,AA,Az,eq_self,Nat.reduceEqDiff,↓reduceIte,Nat.reduceAdd,reduceCtorEq,A8,hz0,hneg]
   rw [show TV.agg [ts n,ts m,i64 (t:Int),TV.val (Value.int IntKind.i64 (-((v / 100*60+v % 100:Nat):Int)))]=OL q by rw [hq]]
   clear hq hqT hneg
   have fin:∀ β:Bool,(β=true↔pV zr≠none∧EW q∧I8 q=s)→Ava s (.tup [OL q,tb β]):=fun β hβ=>by
    refine ⟨fun p hp e => ?_,fun h => ?_⟩
    ·obtain ⟨rfl,hv2⟩:=key p hp e
     rw [hβ.2 ⟨hv2,hp,e⟩]
    ·refine ⟨q,hfit,?_⟩
     cases β with
     | false=>rfl
     | true=>exact absurd (hβ.1 rfl).2.2 (h q (hβ.1 rfl).2.1)
   simp -dsimp (disch:=first | assumption | omega | (simp only [Aa];try omega)) only [↓AB,Aj,AA,Az,eq_self,Nat.reduceEqDiff,↓reduceIte,Nat.reduceAdd,reduceCtorEq,↓OQ]
   refine (AtH q hfit).calls rfl fun x hx => ?_
   by_cases hok:EW q
   ·rw [hx.1 hok]
    rcases her with ⟨rfl,hv2⟩ | ⟨rfl,hv2⟩
    ·simp -dsimp (disch:=first | assumption | omega | (simp only [Aa];try omega)) only [↓AB,Aj,AA,Az,eq_self,Nat.reduceEqDiff,↓reduceIte,Nat.reduceAdd,reduceCtorEq,↓CY]
     by_cases heq:I8 q=s
     ·simp -dsimp (disch:=first | assumption | omega | (simp only [Aa];try omega)) only [↓AB,Aj,AA,Az,eq_self,Nat.reduceEqDiff,↓reduceIte,Nat.reduceAdd,heq,↓BV]
      exact fin true ⟨fun _=>⟨by rw [hv2]; simp,hok,heq⟩,fun _=>rfl⟩
     ·simp -dsimp (disch:=first | assumption | omega | (simp only [Aa];try omega)) only [↓AB,Aj,AA,Az,eq_self,Nat.reduceEqDiff,↓reduceIte,Nat.reduceAdd,heq,↓BV]
      exact fin false ⟨fun h=>(by cases h),fun h=>absurd h.2.2 heq⟩
    ·simp -dsimp (disch:=first | assumption | omega | (simp only [Aa];try omega)) only [↓AB,Aj,AA,Az,eq_self,Nat.reduceEqDiff,↓reduceIte,Nat.reduceAdd,reduceCtorEq,↓CY,↓BV]
     exact fin false ⟨fun h=>(by cases h),fun h=>absurd hv2 h.1⟩
   ·rw [hx.2 hok]
    rcases her with ⟨rfl,hv2⟩ | ⟨rfl,hv2⟩
    ·simp -dsimp (disch:=first | assumption | omega | (simp only [Aa];try omega)) only [↓AB,Aj,AA,Az,eq_self,Nat.reduceEqDiff,↓reduceIte,Nat.reduceAdd,reduceCtorEq,↓CY,↓BV]
     exact fin false ⟨fun h=>(by cases h),fun h=>absurd h.2.1 hok⟩
    ·simp -dsimp (disch:=first | assumption | omega | (simp only [Aa];try omega)) only [↓AB,Aj,AA,Az,eq_self,Nat.reduceEqDiff,↓reduceIte,Nat.reduceAdd,reduceCtorEq,↓CY,↓BV]
     exact fin false ⟨fun h=>(by cases h),fun h=>absurd h.2.1 hok⟩
  ·obtain ⟨q,hq⟩:∃ q:Per,q=⟨n,m,(t:Int),((v / 100*60+v % 100:Nat):Int)⟩:=⟨_,rfl⟩
   have key:∀ p,EW p→I8 p=s→p=q∧pV zr≠none:=fun p hp e=>by
    obtain ⟨_,h2,h3,h4,h5,h6,h7⟩:=hzone p hp e
    refine ⟨?_,h4⟩
    unfold Aqw at h2
    split at h2
    ·exact absurd (by rw [h2]; rfl) hz0
    ·obtain ⟨pn,pm,pt,pz⟩:=p
     simp only at *
     rw [hq,h5,h6,h7,h3]
     congr 1
     omega
   have hfit:Qq q:=by subst hq; exact ⟨⟨by simp only; omega,by simp only; omega⟩,by simp only; omega,by simp only; omega⟩
   simp -dsimp (disch:=first | assumption | omega | (simp only [Aa];try omega)) only [↓AB,Aj,AA,Az,eq_self,Nat.reduceEqDiff,↓reduceIte,reduceCtorEq,A8,hz0]
   rw [show TV.agg [ts n,ts m,i64 (t:Int),TV.val (Value.int IntKind.i64 ((v / 100*60+v % 100:Nat):Int))]=OL q by rw [hq]]
   clear hq
   have fin:∀ β:Bool,(β=true↔pV zr≠none∧EW q∧I8 q=s)→Ava s (.tup [OL q,tb β]):=fun β hβ=>by
    refine ⟨fun p hp e => ?_,fun h => ?_⟩
    ·obtain ⟨rfl,hv2⟩:=key p hp e
     rw [hβ.2 ⟨hv2,hp,e⟩]
    ·refine ⟨q,hfit,?_⟩
     cases β with
     | false=>rfl
     | true=>exact absurd (hβ.1 rfl).2.2 (h q (hβ.1 rfl).2.1)
   simp -dsimp (disch:=first | assumption | omega | (simp only [Aa];try omega)) only [↓AB,Aj,AA,Az,eq_self,Nat.reduceEqDiff,↓reduceIte,Nat.reduceAdd,reduceCtorEq,↓OQ]
   refine (AtH q hfit).calls rfl fun x hx => ?_
   by_cases hok:EW q
   ·rw [hx.1 hok]
    rcases her with ⟨rfl,hv2⟩ | ⟨rfl,hv2⟩
    ·simp -dsimp (disch:=first | assumption | omega | (simp only [Aa];try omega)) only [↓AB,Aj,AA,Az,eq_self,Nat.reduceEqDiff,↓reduceIte,Nat.reduceAdd,reduceCtorEq,↓CY]
     by_cases heq:I8 q=s
     ·simp -dsimp (disch:=first | assumption | omega | (simp only [Aa];try omega)) only [↓AB,Aj,AA,Az,eq_self,Nat.reduceEqDiff,↓reduceIte,Nat.reduceAdd,heq,↓BV]
      exact fin true ⟨fun _=>⟨by rw [hv2]; simp,hok,heq⟩,fun _=>rfl⟩
     ·simp -dsimp (disch:=first | assumption | omega | (simp only [Aa];try omega)) only [↓AB,Aj,AA,Az,eq_self,Nat.reduceEqDiff,↓reduceIte,Nat.reduceAdd,heq,↓BV]
      exact fin false ⟨fun h=>(by cases h),fun h=>absurd h.2.2 heq⟩
    ·simp -dsimp (disch:=first | assumption | omega | (simp only [Aa];try omega)) only [↓AB,Aj,AA,Az,eq_self,Nat.reduceEqDiff,↓reduceIte,Nat.reduceAdd,reduceCtorEq,↓CY,↓BV]
     exact fin false ⟨fun h=>(by cases h),fun h=>absurd hv2 h.1⟩
   ·rw [hx.2 hok]
    rcases her with ⟨rfl,hv2⟩ | ⟨rfl,hv2⟩
    ·simp -dsimp (disch:=first | assumption | omega | (simp only [Aa];try omega)) only [↓AB,Aj,AA,Az,eq_self,Nat.reduceEqDiff,↓reduceIte,Nat.reduceAdd,reduceCtorEq,↓CY,↓BV]
     exact fin false ⟨fun h=>(by cases h),fun h=>absurd h.2.1 hok⟩
    ·simp -dsimp (disch:=first | assumption | omega | (simp only [Aa];try omega)) only [↓AB,Aj,AA,Az,eq_self,Nat.reduceEqDiff,↓reduceIte,Nat.reduceAdd,reduceCtorEq,↓CY,↓BV]
     exact fin false ⟨fun h=>(by cases h),fun h=>absurd h.2.1 hok⟩
end
section
variable [Cc]
set_option maxRecDepth 100000
def Aqt:AP := .seq (.block 1 (.draw 10 [mv_ 9 3,mv_ 10 4,po_ 11 (.idxAA 20 1 (.t 1) (.t 10)),po_ 12 (.load false 1 (.t 11)),po_ 13 (.bin 5 .quo (.t 12) (.c (.int .u8 ((16:Nat):Int)))),so_ 14 (.call 70 [.t 13]),mv_ 15 4,po_ 16 (.idxAA 20 1 (.t 1) (.t 15)),po_ 17 (.load false 1 (.t 16)),po_ 18 (.bin 5 .rem (.t 17) (.c (.int .u8 ((16:Nat):Int)))),so_ 19 (.call 70 [.t 18]),⟨some 20,.s (.bslice 1 2 (.val (.int .u8 ((0:Nat):Int))) [⟨0,.t 14⟩,⟨1,.t 19⟩]),none⟩,so_ 21 (.app 1 1 5 (.t 9) (.t 20)),mv_ 3 21] [1,3,4]))
 (.ops [mv_ 7 4,po_ 8 (.bin 3 .add (.t 7) (ci_ 1)),mv_ 4 8] [1,3,4])
def Arf:AP := .seq (.seq (.ops [mv_ 5 4,po_ 6 (.bin 3 .lss (.t 5) (ci_ 20))] [1,3,4,6])
 (.cond (.t 6)
 (.skip)
 (.exit 0)))
 Aqt
def Aqp:AP := .block 0 (.own 3 1 (.loop [1,3,4] Arf))
def Ar1:AP := .seq (.ops [mv_ 22 3,po_ 23 (.b2s (.t 22)),mv_ 2 23] [2])
 (.ret)
def Aqj:AP := .seq (.seq (.ops [po_ 4 (.mov (ci_ 0))] [1,3,4])
 Aqp)
 Ar1
def Aq7:AP := .seq (.ops [po_ 3 (.mov (.c (.slice none 0 0)))] [1,3])
 Aqj
def Axv:AP := .seq (.ops [so_ 1 (.box (.t 0)),po_ 2 (.mov (.c (.string (str []))))] [1])
 Aq7
def Aw9:List VR:=[.tmp 2]
theorem AEP:Tryz.f36.body.bind (trC Tryz.prog Tryz.f36.ntmps)=some (er Axv):=by kernel_rfl
theorem ADN:trR Tryz.prog Tryz.f36.results.toList=some Aw9:=by kernel_rfl
def Av6:=Ac Aqt.eq_1
def Av9:=Ac Arf.eq_1
def AuM:=Ac Aqp.eq_1
def Avc:=Ac Ar1.eq_1
def Avw:=Ac Aqj.eq_1
def AvR:=Ac Aq7.eq_1
def Ay5:=Ac Axv.eq_1
theorem AzP {K:TV→Prop} {e:Env} {H:List Ob}:res Aw9 e H K=res [.tmp 2] e H K:=Ap rfl
def AsQ:=(And.intro (And.intro (And.intro @Av6 @Av9) (And.intro @AuM @Avc)) (And.intro (And.intro @Avw @AvR) (And.intro @Ay5 @AzP)))
def AB3:=ES 24 Tryz.func36 AEP ADN rfl
def Atd:AP := .seq (.ops [po_ 2 (.mov (.c (.int .u8 ((0:Nat):Int))))] [0])
 (.seq (.seq (.ops [mv_ 3 0,po_ 4 (.bin 5 .lss (.t 3) (.c (.int .u8 ((10:Nat):Int))))] [0,4])
 (.cond (.t 4)
 (.seq (.ops [mv_ 5 0,po_ 6 (.bin 5 .add (.c (.int .u8 ((48:Nat):Int))) (.t 5)),mv_ 2 6] [2])
  (.ret))
 (.skip)))
 (.seq (.ops [mv_ 7 0,po_ 8 (.bin 5 .add (.c (.int .u8 ((97:Nat):Int))) (.t 7)),po_ 9 (.bin 5 .sub (.t 8) (.c (.int .u8 ((10:Nat):Int)))),mv_ 2 9] [2])
 (.ret)))
def AtG:List VR:=[.tmp 2]
theorem AAS:Tryz.f70.body.bind (trC Tryz.prog Tryz.f70.ntmps)=some (er Atd):=by kernel_rfl
theorem Azn:trR Tryz.prog Tryz.f70.results.toList=some AtG:=by kernel_rfl
def Awr:=Ac Atd.eq_1
theorem Awk {K:TV→Prop} {e:Env} {H:List Ob}:res AtG e H K=res [.tmp 2] e H K:=Ap rfl
def AkZ:=(And.intro @Awr @Awk)
def AyG:=ES 10 Tryz.func70 AAS Azn rfl
def AeI:AP := .seq (.seq (.ops [mv_ 27 6,po_ 28 (.bin 3 .lss (.t 27) (ci_ 0)),mv_ 29 28,⟨some 30,.p (.mov (.t 7)),some ⟨29,false⟩⟩,⟨some 31,.p (.bin 3 .lss (.t 30) (ci_ 0)),some ⟨29,false⟩⟩,po_ 32 (.pick (.t 29) (.c (.bool true)) (.t 31))] [0,2,4,5,6,7,13,32])
 (.cond (.t 32)
 (.seq (.ops [po_ 33 (.buildA 20 1 [.val (.int .u8 ((0:Nat):Int)),.val (.int .u8 ((0:Nat):Int)),.val (.int .u8 ((0:Nat):Int)),.val (.int .u8 ((0:Nat):Int)),.val (.int .u8 ((0:Nat):Int)),.val (.int .u8 ((0:Nat):Int)),.val (.int .u8 ((0:Nat):Int)),.val (.int .u8 ((0:Nat):Int)),.val (.int .u8 ((0:Nat):Int)),.val (.int .u8 ((0:Nat):Int)),.val (.int .u8 ((0:Nat):Int)),.val (.int .u8 ((0:Nat):Int)),.val (.int .u8 ((0:Nat):Int)),.val (.int .u8 ((0:Nat):Int)),.val (.int .u8 ((0:Nat):Int)),.val (.int .u8 ((0:Nat):Int)),.val (.int .u8 ((0:Nat):Int)),.val (.int .u8 ((0:Nat):Int)),.val (.int .u8 ((0:Nat):Int)),.val (.int .u8 ((0:Nat):Int))] []),po_ 34 (.iface 34 (ci_ 12)),⟨none,.s (.store 20 (.t 2) (.t 33)),none⟩,mv_ 3 34] [2,3])
  (.ret))
 (.skip)))
 (.ops [mv_ 35 5,mv_ 36 6,po_ 37 (.bin 3 .shl (.t 36) (.c (.int .u64 ((4:Nat):Int)))),mv_ 38 7,po_ 39 (.bin 3 .or (.t 37) (.t 38)),po_ 40 (.conv .u8 (.t 39)),po_ 41 (.idxAA 20 1 (.t 4) (.t 35)),⟨none,.s (.store 1 (.t 41) (.t 40)),none⟩] [0,2,4,13])
def Adu:AP := .seq (.draw 10 [mv_ 16 0,mv_ 17 5,po_ 18 (.bin 3 .mul (ci_ 2) (.t 17)),po_ 19 (.idxS (.t 16) (.t 18)),so_ 20 (.call 136 [.c (.string (str [48,49,50,51,52,53,54,55,56,57,97,98,99,100,101,102])),.t 19]),mv_ 21 0,mv_ 22 5,po_ 23 (.bin 3 .mul (ci_ 2) (.t 22)),po_ 24 (.bin 3 .add (.t 23) (ci_ 1)),po_ 25 (.idxS (.t 21) (.t 24)),so_ 26 (.call 136 [.c (.string (str [48,49,50,51,52,53,54,55,56,57,97,98,99,100,101,102])),.t 25]),mv_ 6 20,mv_ 7 26] [0,2,4,5,6,7,13])
 AeI
def Adx:AP := .seq (.block 1 (.seq (.ops [mv_ 15 13,mv_ 5 15] [0,2,4,5,13])
 Adu))
 (.ops [po_ 42 (.bin 3 .add (.t 13) (ci_ 1)),mv_ 13 42] [0,2,4,13])
def Aeb:AP := .seq (.cond (.t 14)
 (.skip)
 (.exit 0))
 Adx
def AfE:AP := .seq (.ops [po_ 14 (.bin 3 .lss (.t 13) (ci_ 20))] [0,2,4,13,14])
 Aeb
def AeQ:AP := .block 0 (.loop [0,2,4,13] AfE)
def Ady:AP := .seq (.ops [po_ 43 (.load true 20 (.t 4)),⟨none,.s (.store 20 (.t 2) (.t 43)),none⟩,po_ 3 (.mov (.c .nilIface))] [2,3])
 (.ret)
def AfV:AP := .seq (.seq (.ops [po_ 13 (.mov (ci_ 0))] [0,2,4,13])
 AeQ)
 Ady
def AfG:AP := .seq (.seq (.ops [mv_ 8 0,po_ 9 (.lenS (.t 8)),po_ 10 (.bin 3 .neq (.t 9) (ci_ 40))] [0,2,4,10])
 (.cond (.t 10)
 (.seq (.ops [po_ 11 (.load true 20 (.t 4)),po_ 12 (.iface 34 (ci_ 12)),⟨none,.s (.store 20 (.t 2) (.t 11)),none⟩,mv_ 3 12] [2,3])
  (.ret))
 (.skip)))
 AfV
def Abu:AP := .seq (.ops [so_ 4 (.alloc (.arr 20 1 [.val (.int .u8 ((0:Nat):Int)),.val (.int .u8 ((0:Nat):Int)),.val (.int .u8 ((0:Nat):Int)),.val (.int .u8 ((0:Nat):Int)),.val (.int .u8 ((0:Nat):Int)),.val (.int .u8 ((0:Nat):Int)),.val (.int .u8 ((0:Nat):Int)),.val (.int .u8 ((0:Nat):Int)),.val (.int .u8 ((0:Nat):Int)),.val (.int .u8 ((0:Nat):Int)),.val (.int .u8 ((0:Nat):Int)),.val (.int .u8 ((0:Nat):Int)),.val (.int .u8 ((0:Nat):Int)),.val (.int .u8 ((0:Nat):Int)),.val (.int .u8 ((0:Nat):Int)),.val (.int .u8 ((0:Nat):Int)),.val (.int .u8 ((0:Nat):Int)),.val (.int .u8 ((0:Nat):Int)),.val (.int .u8 ((0:Nat):Int)),.val (.int .u8 ((0:Nat):Int))]))] [0,2,4])
 AfG
def Am9:AP := .seq (.ops [so_ 2 (.alloc (.arr 20 1 [.val (.int .u8 ((0:Nat):Int)),.val (.int .u8 ((0:Nat):Int)),.val (.int .u8 ((0:Nat):Int)),.val (.int .u8 ((0:Nat):Int)),.val (.int .u8 ((0:Nat):Int)),.val (.int .u8 ((0:Nat):Int)),.val (.int .u8 ((0:Nat):Int)),.val (.int .u8 ((0:Nat):Int)),.val (.int .u8 ((0:Nat):Int)),.val (.int .u8 ((0:Nat):Int)),.val (.int .u8 ((0:Nat):Int)),.val (.int .u8 ((0:Nat):Int)),.val (.int .u8 ((0:Nat):Int)),.val (.int .u8 ((0:Nat):Int)),.val (.int .u8 ((0:Nat):Int)),.val (.int .u8 ((0:Nat):Int)),.val (.int .u8 ((0:Nat):Int)),.val (.int .u8 ((0:Nat):Int)),.val (.int .u8 ((0:Nat):Int)),.val (.int .u8 ((0:Nat):Int))])),po_ 3 (.mov (.c .nilIface))] [0,2])
 Abu
def Anh:List VR:=[.cell 2 true 20,.tmp 3]
theorem Awl:Tryz.f105.body.bind (trC Tryz.prog Tryz.f105.ntmps)=some (er Am9):=by kernel_rfl
theorem AwO:trR Tryz.prog Tryz.f105.results.toList=some Anh:=by kernel_rfl
def Aoz:=Ac AeI.eq_1
def AoP:=Ac Adu.eq_1
def Aov:=Ac Adx.eq_1
def An3:=Ac Aeb.eq_1
def Aol:=Ac AfE.eq_1
def Apa:=Ac AeQ.eq_1
def Apu:=Ac Ady.eq_1
def Apb:=Ac AfV.eq_1
def Ao3:=Ac AfG.eq_1
def Ami:=Ac Abu.eq_1
def Aux:=Ac Am9.eq_1
theorem AtX {K:TV→Prop} {e:Env} {H:List Ob}:res Anh e H K=res [.cell 2 true 20,.tmp 3] e H K:=Ap rfl
def LV:=(And.intro (And.intro (And.intro (And.intro @Aoz @AoP) (And.intro @Aov @An3)) (And.intro (And.intro @Aol @Apa) (And.intro @Apu @Apb))) (And.intro (And.intro @Ao3 @Ami) (And.intro @Aux @AtX)))
def Avk:=ES 44 Tryz.func105 Awl AwO rfl
def Akb:AP := .seq (.ops [mv_ 30 6,po_ 31 (.bin 5 .geq (.t 30) (.c (.int .u8 ((97:Nat):Int)))),mv_ 32 31,⟨some 33,.p (.mov (.t 6)),some ⟨32,true⟩⟩,⟨some 34,.p (.bin 5 .leq (.t 33) (.c (.int .u8 ((102:Nat):Int)))),some ⟨32,true⟩⟩,po_ 35 (.pick (.t 32) (.t 34) (.c (.bool false))),mv_ 29 35] [0,2,4,5,6,29])
 (.cond (.t 29)
 (.ops [mv_ 36 6,po_ 37 (.bin 5 .sub (.t 36) (.c (.int .u8 ((97:Nat):Int)))),po_ 38 (.bin 5 .add (.t 37) (.c (.int .u8 ((10:Nat):Int)))),mv_ 7 38] [0,2,4,5,7])
 (.seq (.ops [po_ 19 (.buildA 20 1 [.val (.int .u8 ((0:Nat):Int)),.val (.int .u8 ((0:Nat):Int)),.val (.int .u8 ((0:Nat):Int)),.val (.int .u8 ((0:Nat):Int)),.val (.int .u8 ((0:Nat):Int)),.val (.int .u8 ((0:Nat):Int)),.val (.int .u8 ((0:Nat):Int)),.val (.int .u8 ((0:Nat):Int)),.val (.int .u8 ((0:Nat):Int)),.val (.int .u8 ((0:Nat):Int)),.val (.int .u8 ((0:Nat):Int)),.val (.int .u8 ((0:Nat):Int)),.val (.int .u8 ((0:Nat):Int)),.val (.int .u8 ((0:Nat):Int)),.val (.int .u8 ((0:Nat):Int)),.val (.int .u8 ((0:Nat):Int)),.val (.int .u8 ((0:Nat):Int)),.val (.int .u8 ((0:Nat):Int)),.val (.int .u8 ((0:Nat):Int)),.val (.int .u8 ((0:Nat):Int))] []),⟨none,.s (.store 20 (.t 2) (.t 19)),none⟩,po_ 3 (.mov (.c (.bool false)))] [2,3])
  (.ret)))
def Ak2:AP := .cond (.t 20)
 (.ops [mv_ 27 6,po_ 28 (.bin 5 .sub (.t 27) (.c (.int .u8 ((48:Nat):Int)))),mv_ 7 28] [0,2,4,5,7])
 Akb
def AkJ:AP := .seq (.block 2 (.seq (.ops [mv_ 21 6,po_ 22 (.bin 5 .geq (.t 21) (.c (.int .u8 ((48:Nat):Int)))),mv_ 23 22,⟨some 24,.p (.mov (.t 6)),some ⟨23,true⟩⟩,⟨some 25,.p (.bin 5 .leq (.t 24) (.c (.int .u8 ((57:Nat):Int)))),some ⟨23,true⟩⟩,po_ 26 (.pick (.t 23) (.t 25) (.c (.bool false))),mv_ 20 26] [0,2,4,5,6,20])
 Ak2))
 (.ops [mv_ 39 5,po_ 40 (.bin 3 .quo (.t 39) (ci_ 2)),mv_ 41 5,po_ 42 (.bin 3 .quo (.t 41) (ci_ 2)),po_ 43 (.idxAA 20 1 (.t 4) (.t 42)),po_ 44 (.load false 1 (.t 43)),po_ 45 (.bin 5 .mul (.t 44) (.c (.int .u8 ((16:Nat):Int)))),mv_ 46 7,po_ 47 (.bin 5 .add (.t 45) (.t 46)),po_ 48 (.idxAA 20 1 (.t 4) (.t 40)),⟨none,.s (.store 1 (.t 48) (.t 47)),none⟩] [0,2,4,5])
def AkS:AP := .seq (.ops [po_ 7 (.mov (.c (.int .u8 ((0:Nat):Int))))] [0,2,4,5,6])
 AkJ
def Alm:AP := .seq (.block 1 (.seq (.ops [mv_ 16 0,mv_ 17 5,po_ 18 (.idxS (.t 16) (.t 17)),mv_ 6 18] [0,2,4,5,6])
 AkS))
 (.ops [mv_ 14 5,po_ 15 (.bin 3 .add (.t 14) (ci_ 1)),mv_ 5 15] [0,2,4,5])
def AkL:AP := .seq (.seq (.ops [mv_ 12 5,po_ 13 (.bin 3 .lss (.t 12) (ci_ 40))] [0,2,4,5,13])
 (.cond (.t 13)
 (.skip)
 (.exit 0)))
 Alm
def Alv:AP := .block 0 (.loop [0,2,4,5] AkL)
def Alg:AP := .seq (.ops [po_ 49 (.load true 20 (.t 4)),⟨none,.s (.store 20 (.t 2) (.t 49)),none⟩,po_ 3 (.mov (.c (.bool true)))] [2,3])
 (.ret)
def Akt:AP := .seq (.seq (.ops [po_ 5 (.mov (ci_ 0))] [0,2,4,5])
 Alv)
 Alg
def AhS:AP := .seq (.seq (.ops [mv_ 8 0,po_ 9 (.lenS (.t 8)),po_ 10 (.bin 3 .neq (.t 9) (ci_ 40))] [0,2,4,10])
 (.cond (.t 10)
 (.seq (.ops [po_ 11 (.load true 20 (.t 4)),⟨none,.s (.store 20 (.t 2) (.t 11)),none⟩,po_ 3 (.mov (.c (.bool false)))] [2,3])
  (.ret))
 (.skip)))
 Akt
def AhU:AP := .seq (.ops [so_ 4 (.alloc (.arr 20 1 [.val (.int .u8 ((0:Nat):Int)),.val (.int .u8 ((0:Nat):Int)),.val (.int .u8 ((0:Nat):Int)),.val (.int .u8 ((0:Nat):Int)),.val (.int .u8 ((0:Nat):Int)),.val (.int .u8 ((0:Nat):Int)),.val (.int .u8 ((0:Nat):Int)),.val (.int .u8 ((0:Nat):Int)),.val (.int .u8 ((0:Nat):Int)),.val (.int .u8 ((0:Nat):Int)),.val (.int .u8 ((0:Nat):Int)),.val (.int .u8 ((0:Nat):Int)),.val (.int .u8 ((0:Nat):Int)),.val (.int .u8 ((0:Nat):Int)),.val (.int .u8 ((0:Nat):Int)),.val (.int .u8 ((0:Nat):Int)),.val (.int .u8 ((0:Nat):Int)),.val (.int .u8 ((0:Nat):Int)),.val (.int .u8 ((0:Nat):Int)),.val (.int .u8 ((0:Nat):Int))]))] [0,2,4])
 AhS
def Atz:AP := .seq (.ops [so_ 2 (.alloc (.arr 20 1 [.val (.int .u8 ((0:Nat):Int)),.val (.int .u8 ((0:Nat):Int)),.val (.int .u8 ((0:Nat):Int)),.val (.int .u8 ((0:Nat):Int)),.val (.int .u8 ((0:Nat):Int)),.val (.int .u8 ((0:Nat):Int)),.val (.int .u8 ((0:Nat):Int)),.val (.int .u8 ((0:Nat):Int)),.val (.int .u8 ((0:Nat):Int)),.val (.int .u8 ((0:Nat):Int)),.val (.int .u8 ((0:Nat):Int)),.val (.int .u8 ((0:Nat):Int)),.val (.int .u8 ((0:Nat):Int)),.val (.int .u8 ((0:Nat):Int)),.val (.int .u8 ((0:Nat):Int)),.val (.int .u8 ((0:Nat):Int)),.val (.int .u8 ((0:Nat):Int)),.val (.int .u8 ((0:Nat):Int)),.val (.int .u8 ((0:Nat):Int)),.val (.int .u8 ((0:Nat):Int))])),po_ 3 (.mov (.c (.bool false)))] [0,2])
 AhU
def Aty:List VR:=[.cell 2 true 20,.tmp 3]
theorem AzU:Tryz.f77.body.bind (trC Tryz.prog Tryz.f77.ntmps)=some (er Atz):=by kernel_rfl
theorem AAi:trR Tryz.prog Tryz.f77.results.toList=some Aty:=by kernel_rfl
def Asr:=Ac Akb.eq_1
def AsI:=Ac Ak2.eq_1
def AsW:=Ac AkJ.eq_1
def Asd:=Ac AkS.eq_1
def Asm:=Ac Alm.eq_1
def Asq:=Ac AkL.eq_1
def AsK:=Ac Alv.eq_1
def AsZ:=Ac Alg.eq_1
def Ar8:=Ac Akt.eq_1
def ArS:=Ac AhS.eq_1
def Aqs:=Ac AhU.eq_1
def Awb:=Ac Atz.eq_1
theorem AwB {K:TV→Prop} {e:Env} {H:List Ob}:res Aty e H K=res [.cell 2 true 20,.tmp 3] e H K:=Ap rfl
def Lh:=(And.intro (And.intro (And.intro (And.intro @Asr @AsI) (And.intro @AsW @Asd)) (And.intro (And.intro @Asm @Asq) (And.intro @AsK @AsZ))) (And.intro (And.intro (And.intro @Ar8 @ArS) (And.intro @Aqs @Awb)) @AwB))
def Ax9:=ES 50 Tryz.func77 AzU AAi rfl
def Y3:AP := .seq (.ops [po_ 4 (.mov (ci_ 0))] [0,1])
 (.seq (.ops [mv_ 5 0,mv_ 6 1,so_ 7 (.call 165 [.t 5,.t 6]),mv_ 4 7] [4])
 (.ret))
def Zj:List VR:=[.tmp 4]
theorem Aoc:Tryz.f136.body.bind (trC Tryz.prog Tryz.f136.ntmps)=some (er Y3):=by kernel_rfl
theorem Aqi:trR Tryz.prog Tryz.f136.results.toList=some Zj:=by kernel_rfl
def Alr:=Ac Y3.eq_1
theorem AjY {K:TV→Prop} {e:Env} {H:List Ob}:res Zj e H K=res [.tmp 4] e H K:=Ap rfl
def YF:=(And.intro @Alr @AjY)
def AmM:=ES 8 Tryz.func136 Aoc Aqi rfl
end
section
open Go.RowKit
variable [Cc]
end
section
open Go.RowKit
variable [Cc]
def Blq (id ver:Nat) (p:List (Nat×Nat)) (a:TV):Prop:=a = .val (.pointer none)∨a = .op id ver p
def Az4 (T:TypeId) (m o:Nat):Prop:=o<m∧liesAt Tryz.prog Tryz.prog.depth T (m / Tryz.prog.cellsOf T) o 118 1=true
end
section
open Go.RowKit
variable [Cc]
end
section
open Go.RowKit
variable [Cc]
structure Bld (H:List Ob) (id ver:Nat) (p:List (Nat×Nat)) (j v:Nat) (x:TV) (l:List UInt8):Prop where
 ob:H[id]?=some (.obj ver x)
 fields:∃ a,Blq id ver p a∧Aaj p x=some (.agg [a,.os 1 j v [] 0 l.length l.length])
 row:H[j]?=some (.bld v 5 l)
 ne:id≠j
 fact:∃ (q:Nat) (T:TypeId) (m:Nat),H[q]?=some (Ob.fact id ver T m)∧Az4 T m (MM p)
end
section
variable [Cc]
set_option maxRecDepth 100000
end
section
open Go.RowKit
variable [Cc]
end
section
open Go.RowKit
variable [Cc]
set_option maxHeartbeats 2000000 in
set_option maxRecDepth 100000 in
theorem AxE (s:ByteArray) (cv:Int) (w:World) :
  Calls Tryz.prog 165 #[.string s,.int .u8 cv] w fun e w'=>e = .returned (.int .i64 (Lib.indexByte s.data.toList cv.toNat.toUInt8))∧w'=w:=by
 go_enter Tryz.func165,Tryz.ntmps165
 go_wp2
 rw [run_callFunc_extern Tryz.func178 (by kernel_rfl) (by kernel_rfl) (by kernel_rfl) (e:=Extern.BytealgIndexByte.indexByte) (by kernel_rfl),Lib.run_indexByteString s cv w]
 simp only [Result.andThen]
 rw [Oper.upon_value]
 go_wp2
 go_ret
 exact ⟨rfl,rfl⟩
theorem CE.ofCalls {f:FuncId} {args:List Value} {r:Value} (h:∀ w,Calls Tryz.prog f args.toArray w fun e w'=>e = .returned r∧w'=w):CE Tryz.prog f (args.map .val) (fun x=>x = .val r):=by
 intro β F w vs hF hv
 have hvs:vs=args:=by
  clear h hF
  induction args generalizing vs with
  | nil=>rw [List.map_nil,Ei.nil] at hv; exact hv
  | cons a args ih =>
   rw [List.map_cons] at hv
   obtain ⟨v,us,rfl,h1,h2⟩:=Ei.cons.1 hv
   have:=Rep.val.1 (Or.inl h1:Rep _ _ _ _)
   rw [this,ih us h2]
 subst hvs
 refine (h w).mono ?_
 rintro e w' ⟨rfl,rfl⟩
 exact ⟨_,_,F,rfl,rfl,Rep.of_val,⟨rfl,rfl,rfl,Nat.le_refl _,fun _ _=>rfl,fun _ h=>h,fun _ _ h=>h,hF.1⟩⟩
theorem ABk (l:List UInt8) (c:UInt8):CE Tryz.prog 165 [.val (.string (str l)),by8 c] (fun x=>x = .val (.int .i64 (Lib.indexByte l c))):=by
 have h:=CE.ofCalls (f:=165) (args:=[.string (str l),.int .u8 c.toNat]) (r := .int .i64 (Lib.indexByte l c)) (fun w=>by
  have h1:=AxE (str l) c.toNat w
  have e1:(str l).data.toList=l:=by simp [str]
  have e2:((c.toNat:Int)).toNat.toUInt8=c:=by rw [Int.toNat_natCast]; simp
  rw [e1,e2] at h1; exact h1)
 exact h
end
section
open Go.RowKit
variable [Cc]
def dig (n:Nat):UInt8:=UInt8.ofNat (if n<10 then 48+n else 87+n)
def FW (l:List UInt8):List UInt8:=l.flatMap fun x=>[dig (x.toNat / 16),dig (x.toNat % 16)]
def Azd:List UInt8:=[48,49,50,51,52,53,54,55,56,57,97,98,99,100,101,102]
theorem Uj (l:List UInt8):(FW l).length=2*l.length:=by
 induction l with
 | nil=>rfl
 | cons x l ih =>
  have e:FW (x::l)=dig (x.toNat / 16)::dig (x.toNat % 16)::FW l:=rfl
  rw [e,List.length_cons,List.length_cons,List.length_cons,ih]; omega
theorem AD0 (l:List UInt8) (x:UInt8):FW (l++[x])=FW l++[dig (x.toNat / 16)]++[dig (x.toNat % 16)]:=by simp [FW]
theorem ZY {l:List UInt8}:bl (str l)=l:=by simp [bl,str]
end
section
open Go.RowKit Go.Extern.Stop Go.Stop Go.Extern
variable [Cc]
theorem ABW (t:Addr) (w:World):(ReflectliteValue.unpack (.iface 83 (.pointer (some t)))).run Tryz.prog w
  = .ok (.agg #[.pointer (some ⟨10,83,none⟩),.pointer (some ⟨w.heap.size,0,none⟩),.int .u64 150]) (w.alloc (.cells #[.pointer (some t)] 83)):=by kernel_rfl
theorem Bnq (a:Addr) (w:World):(ReflectliteValue.methodAny (ReflectliteValue.valueError "reflectlite.Value.Type" 0) (fun t _ _ _=>ReflectliteType.toType t) #[.agg #[.pointer (some ⟨10,83,none⟩),.pointer (some a),.int .u64 150]]).run Tryz.prog w
  = .ok (.iface 175 (.agg #[.pointer (some ⟨10,83,none⟩)])) w:=by kernel_rfl
theorem AzX (h:Value) (w:World):(Go.method 384 175 (.agg #[h]) "Kind").run Tryz.prog w = .ok (195,h) w:=by kernel_rfl
theorem BnC (w:World):((ReflectliteType.abiMethod fun t=>(fun a:Nat=>Value.int IntKind.u8 (a:Int)) <$> Rtype.kind t) #[.pointer (some ⟨10,83,none⟩)]).run Tryz.prog w = .ok (.int .u8 22) w:=by kernel_rfl
theorem BnA (w:World):((ReflectliteType.abiMethod fun t=>(fun a:Nat=>Value.int IntKind.u8 (a:Int)) <$> Rtype.kind t) #[.pointer (some ⟨10,34,none⟩)]).run Tryz.prog w = .ok (.int .u8 2) w:=by kernel_rfl
theorem rlm (z:Sem Value) (f:TypeId→Addr→Nat→Nat→Sem Value) (v:Value) :
  ReflectliteValue.method z f #[v]=(do match ← ReflectliteValue.parts v with | none=>z | some (t,a,fl)=>f t a fl (fl % 32)):=rfl
theorem AAn (a:Addr) (w:World):(ReflectliteValue.parts (.agg #[.pointer (some ⟨10,83,none⟩),.pointer (some a),.int .u64 150])).run Tryz.prog w = .ok (some (83,a,150)) w:=by kernel_rfl
theorem Bi3 (a p:Addr) (W:World) (ha:W.cell? a=some (.pointer (some p))) :
  (ReflectliteValue.method (ReflectliteValue.valueError "reflectlite.Value.IsNil" 0) ReflectliteValue.isNil #[.agg #[.pointer (some ⟨10,83,none⟩),.pointer (some a),.int .u64 150]]).run Tryz.prog W = .ok (.bool false) W:=by
 rw [rlm]
 simp only [Sem.run_bind,AAn,Result.andThen]
 simp [ReflectliteValue.isNil,loadVar,isAgg,underlying,Tryz.underlying83,ha,Result.andThen]
theorem AAo (h:Value) (w:World):(Go.method 384 175 (.agg #[h]) "Elem").run Tryz.prog w = .ok (206,.agg #[h]) w:=by kernel_rfl
theorem Aqq (h:Value) (w:World):(Go.method 384 175 (.agg #[h]) "Implements").run Tryz.prog w = .ok (207,.agg #[h]) w:=by kernel_rfl
theorem AmF (h:Value) (w:World):(Go.method 384 175 (.agg #[h]) "AssignableTo").run Tryz.prog w = .ok (204,.agg #[h]) w:=by kernel_rfl
theorem BlV (w:World):(ReflectliteType.method ReflectliteType.elem #[.agg #[.pointer (some ⟨10,83,none⟩)]]).run Tryz.prog w = .ok (.iface 175 (.agg #[.pointer (some ⟨10,34,none⟩)])) w:=by kernel_rfl
theorem Awg (w:World):(ReflectliteType.relation "Implements" ReflectliteType.implements_ #[.agg #[.pointer (some ⟨10,34,none⟩)],.iface 175 (.agg #[.pointer (some ⟨10,31,none⟩)])]).run Tryz.prog w = .ok (.bool true) w:=by kernel_rfl
theorem ADU (v:Value) (w:World):(ReflectliteType.typeOf #[.iface 34 v]).run Tryz.prog w = .ok (.iface 175 (.agg #[.pointer (some ⟨10,34,none⟩)])) w:=by kernel_rfl
theorem AwC (w:World):(ReflectliteType.relation "AssignableTo" ReflectliteType.assignableTo #[.agg #[.pointer (some ⟨10,34,none⟩)],.iface 175 (.agg #[.pointer (some ⟨10,34,none⟩)])]).run Tryz.prog w = .ok (.bool true) w:=by kernel_rfl
theorem ABU (e:Int) (w:World):(ReflectliteValue.unpack (.iface 34 (.int .i64 e))).run Tryz.prog w
  = .ok (.agg #[.pointer (some ⟨10,34,none⟩),.pointer (some ⟨w.heap.size,0,none⟩),.int .u64 130]) (w.alloc (.cells #[.int .i64 e] 34)):=by kernel_rfl
theorem ADT (w:World):(Rtype.elem? 83).run Tryz.prog w = .ok (some 34) w:=by kernel_rfl
theorem BvP (p:Addr) (w:World):(ReflectliteValue.mk 34 p ReflectliteValue.flagAddr).run Tryz.prog w = .ok (.agg #[.pointer (some ⟨10,34,none⟩),.pointer (some p),.int .u64 386]) w:=by kernel_rfl
theorem Bjs (a p:Addr) (W:World) (ha:W.cell? a=some (.pointer (some p))) :
  (ReflectliteValue.method (ReflectliteValue.valueError "reflectlite.Value.Elem" 0) ReflectliteValue.elem #[.agg #[.pointer (some ⟨10,83,none⟩),.pointer (some a),.int .u64 150]]).run Tryz.prog W
   = .ok (.agg #[.pointer (some ⟨10,34,none⟩),.pointer (some p),.int .u64 386]) W:=by
 rw [rlm]
 simp only [Sem.run_bind,AAn,Result.andThen]
 simp [ReflectliteValue.elem,loadVar,isAgg,underlying,Tryz.underlying83,ha,Result.andThen,ADT,BvP]
theorem rls (v x:Value):ReflectliteValue.set #[v,x]=(do
  let (some (dst,a,fl),some (src,b,_)):=(←ReflectliteValue.parts v,←ReflectliteValue.parts x)
   | unsupported (.noEntry "extern/(internal/reflectlite.Value).Set.zeroValue")
  if fl / ReflectliteValue.flagAddr % 2 == 0 then unsupported (.noEntry "extern/(internal/reflectlite.Value).Set.unaddressable")
  let val ← loadVar src b
  if ← Rtype.directlyAssignable dst src then storeVar dst a val
  else if ← Rtype.implements dst src then
   if (←Rtype.kind src) == 20 then
    match val with
    | .nilIface=>unsupported (.noEntry "extern/reflectlite: a nil value of one interface type handed on as a value of another")
    | _=>storeVar dst a val
   else storeVar dst a (.iface src val)
  else panicString ("reflectlite.Set: value of type " ++ (←Rtype.spelt src) ++ " is not assignable to type " ++ (←Rtype.spelt dst))
  pure (.tuple #[])):=rfl
theorem AEg (a:Addr) (w:World):(ReflectliteValue.parts (.agg #[.pointer (some ⟨10,34,none⟩),.pointer (some a),.int .u64 386])).run Tryz.prog w = .ok (some (34,a,386)) w:=by kernel_rfl
theorem BkU (a:Addr) (w:World):(ReflectliteValue.parts (.agg #[.pointer (some ⟨10,34,none⟩),.pointer (some a),.int .u64 130])).run Tryz.prog w = .ok (some (34,a,130)) w:=by kernel_rfl
theorem AEj (w:World):(Rtype.directlyAssignable 34 34).run Tryz.prog w = .ok true w:=by kernel_rfl
theorem Brb (ta b:Addr) (e:Int) (old:Value) (W:World) (hb:W.cell? b=some (.int .i64 e)) (ht:W.cell? ta=some old) (hf:W.frozen? ta=false) :
  (ReflectliteValue.set #[.agg #[.pointer (some ⟨10,34,none⟩),.pointer (some ta),.int .u64 386],.agg #[.pointer (some ⟨10,34,none⟩),.pointer (some b),.int .u64 130]]).run Tryz.prog W
   = .ok (.tuple #[]) (W.setCell ta (.int .i64 e)):=by
 rw [rls]
 simp only [Sem.run_bind,AEg,BkU,Result.andThen]
 simp [ReflectliteValue.flagAddr,loadVar,isAgg,underlying,Tryz.underlying34,hb,Result.andThen,AEj,storeVar,Value.cells,storeCells,Addr.add]
 rw [run_store Tryz.prog W ta _ _ (by rfl)]
 simp [ht,hf]
set_option maxHeartbeats 4000000 in
theorem Buy (e:Int) (t:Addr) (old:Value) (w:World) (hg:w.cell? ⟨1,0,none⟩=some (.iface 175 (.agg #[.pointer (some ⟨10,31,none⟩)]))) (ht0:w.cell? t=some old) (hf0:w.frozen? t=false) :
  Calls Tryz.prog 31 #[.iface 34 (.int .i64 e),.iface 83 (.pointer (some t))] w fun ev w'=>ev = .returned (.bool true)∧w'=((((w.alloc (.cells #[.pointer (some t)] 83)).alloc (.cells #[.pointer (some ⟨10,83,none⟩),.pointer (some ⟨w.heap.size,0,none⟩),.int .u64 150] 127)).alloc (.cells #[.pointer (some ⟨10,83,none⟩),.pointer (some ⟨w.heap.size,0,none⟩),.int .u64 150] 127)).alloc (.cells #[.int .i64 e] 34)).setCell t (.int .i64 e):=by
 have h6:=@run_callFunc_extern Tryz.prog 64 _ (fun args=>ReflectliteValue.unpack (args.getD 0 (.tuple #[]))) Tryz.func64 (by kernel_rfl) (by kernel_rfl) (by kernel_rfl) (by kernel_rfl)
 have h7:=@run_callFunc_extern Tryz.prog 65 _ (ReflectliteValue.methodAny (ReflectliteValue.valueError "reflectlite.Value.Type" 0) (fun t _ _ _=>ReflectliteType.toType t)) Tryz.func65 (by kernel_rfl) (by kernel_rfl) (by kernel_rfl) (by kernel_rfl)
 have h8:=@run_callFunc_extern Tryz.prog 66 _ (ReflectliteValue.method (ReflectliteValue.valueError "reflectlite.Value.IsNil" 0) ReflectliteValue.isNil) Tryz.func66 (by kernel_rfl) (by kernel_rfl) (by kernel_rfl) (by kernel_rfl)
 have h27:=@run_callFunc_extern Tryz.prog 195 _ (ReflectliteType.abiMethod fun t=>do pure (.int .u8 (←Rtype.kind t))) Tryz.func195 (by kernel_rfl) (by kernel_rfl) (by kernel_rfl) (by kernel_rfl)
 have h37:=@run_callFunc_extern Tryz.prog 206 _ (ReflectliteType.method ReflectliteType.elem) Tryz.func206 (by kernel_rfl) (by kernel_rfl) (by kernel_rfl) (by kernel_rfl)
 have h38:=@run_callFunc_extern Tryz.prog 207 _ (ReflectliteType.relation "Implements" ReflectliteType.implements_) Tryz.func207 (by kernel_rfl) (by kernel_rfl) (by kernel_rfl) (by kernel_rfl)
 have h10:=@run_callFunc_extern Tryz.prog 102 _ ReflectliteType.typeOf Tryz.func102 (by kernel_rfl) (by kernel_rfl) (by kernel_rfl) (by kernel_rfl)
 have h35:=@run_callFunc_extern Tryz.prog 204 _ (ReflectliteType.relation "AssignableTo" ReflectliteType.assignableTo) Tryz.func204 (by kernel_rfl) (by kernel_rfl) (by kernel_rfl) (by kernel_rfl)
 have h11:=@run_callFunc_extern Tryz.prog 103 _ (ReflectliteValue.method (ReflectliteValue.valueError "reflectlite.Value.Elem" 0) ReflectliteValue.elem) Tryz.func103 (by kernel_rfl) (by kernel_rfl) (by kernel_rfl) (by kernel_rfl)
 have h12:=@run_callFunc_extern Tryz.prog 104 _ ReflectliteValue.set Tryz.func104 (by kernel_rfl) (by kernel_rfl) (by kernel_rfl) (by kernel_rfl)
 have tO:=ADU
 have mA:=AmF
 have a25:=AwC
 have v25:=ABU
 have f6:=ABW
 have f7:=Bnq
 have mK:=AzX
 have mE:=AAo
 have mI:=Aqq
 have k27:=BnC
 have k25:=BnA
 have e27:=BlV
 have i25:=Awg
 have n8:=Bi3 ⟨w.heap.size,0,none⟩ t ((w.alloc (.cells #[.pointer (some t)] 83)).alloc (.cells #[.pointer (some ⟨10,83,none⟩),.pointer (some ⟨w.heap.size,0,none⟩),.int .u64 150] 127)) (by simp)
 have hlt:1<w.heap.size:=by
  rcases Nat.lt_or_ge 1 w.heap.size with h | h
  ·exact h
  ·simp [World.cell?,Array.getElem?_eq_none h] at hg
 have hg2:((w.alloc (.cells #[.pointer (some t)] 83)).alloc (.cells #[.pointer (some ⟨10,83,none⟩),.pointer (some ⟨w.heap.size,0,none⟩),.int .u64 150] 127)).cell? ⟨1,0,none⟩=some (.iface 175 (.agg #[.pointer (some ⟨10,31,none⟩)])):=by
  rw [World.cell?_alloc_lt _ _ ⟨1,0,none⟩ (Nat.lt_of_lt_of_le hlt (by simp)),World.cell?_alloc_lt _ _ ⟨1,0,none⟩ hlt]; exact hg
 have htl:t.block<w.heap.size:=by
  rcases Nat.lt_or_ge t.block w.heap.size with h | h
  ·exact h
  ·simp [World.cell?,Array.getElem?_eq_none h] at ht0
 have el:=Bjs ⟨w.heap.size,0,none⟩ t (((w.alloc (.cells #[.pointer (some t)] 83)).alloc (.cells #[.pointer (some ⟨10,83,none⟩),.pointer (some ⟨w.heap.size,0,none⟩),.int .u64 150] 127)).alloc (.cells #[.pointer (some ⟨10,83,none⟩),.pointer (some ⟨w.heap.size,0,none⟩),.int .u64 150] 127)) (by rw [World.cell?_alloc_lt _ _ ⟨w.heap.size,0,none⟩ (by simp; omega)]; simp)
 have st:=Brb t ⟨w.heap.size+1+1+1,0,none⟩ e old ((((w.alloc (.cells #[.pointer (some t)] 83)).alloc (.cells #[.pointer (some ⟨10,83,none⟩),.pointer (some ⟨w.heap.size,0,none⟩),.int .u64 150] 127)).alloc (.cells #[.pointer (some ⟨10,83,none⟩),.pointer (some ⟨w.heap.size,0,none⟩),.int .u64 150] 127)).alloc (.cells #[.int .i64 e] 34))
  (by rw [World.cell?_alloc_at _ _ _ _ (by simp)]; rfl)
  (by rw [World.cell?_alloc_lt _ _ t (by simp; omega),World.cell?_alloc_lt _ _ t (by simp; omega),World.cell?_alloc_lt _ _ t (by simp; omega),World.cell?_alloc_lt _ _ t htl]; exact ht0)
  (by rw [World.frozen?_alloc_old _ _ t (by simp; omega),World.frozen?_alloc_old _ _ t (by simp; omega),World.frozen?_alloc_old _ _ t (by simp; omega),World.frozen?_alloc_old _ _ t (Nat.ne_of_lt htl)]; exact hf0)
 go_enter Tryz.func31,Tryz.ntmps31
 go_wp2
 refine wp_loop_rounds 1 ?_
 rw [rounds_succ]
 go_wp2
 go_ret
 exact ⟨rfl,rfl⟩
end
section
variable [Cc]
set_option maxRecDepth 100000
def Axg:AP := .seq (.ops [po_ 2 (.mov (ci_ 0))] [0])
 (.seq (.ops [so_ 3 (.alloc (.val (.int .i64 ((0:Nat):Int))))] [0,3])
 (.seq (.block 0 (.seq (.ops [mv_ 5 0,po_ 6 (.eqN 1 (.t 5) (.c .nilIface) false),mv_ 4 6] [0,3,4])
 (.cond (.t 4)
 (.seq (.ops [po_ 2 (.mov (ci_ 0))] [2])
  (.ret))
 (.seq (.ops [mv_ 8 0,po_ 9 (.iface 83 (.t 3)),so_ 10 (.call 31 [.t 8,.t 9]),mv_ 7 10] [3,7])
  (.cond (.t 7)
  (.seq (.ops [po_ 11 (.load false 1 (.t 3)),mv_ 2 11] [2])
   (.ret))
  (.skip))))))
 (.seq (.ops [po_ 2 (.mov (.c (.int .i64 (-1))))] [2])
 (.ret))))
def Axa:List VR:=[.tmp 2]
theorem AD6:Tryz.f8.body.bind (trC Tryz.prog Tryz.f8.ntmps)=some (er Axg):=by kernel_rfl
theorem ADJ:trR Tryz.prog Tryz.f8.results.toList=some Axa:=by kernel_rfl
def AzI:=Ac Axg.eq_1
theorem Ay9 {K:TV→Prop} {e:Env} {H:List Ob}:res Axa e H K=res [.tmp 2] e H K:=Ap rfl
def Asn:=(And.intro @AzI @Ay9)
def AuU:=ES 12 Tryz.func8 AD6 ADJ rfl
end
section
open Go.RowKit
variable [Cc] [GK]
theorem Ags.refl {F:Nat→Prop} {w:World} (h:∀ b,F b→b<w.heap.size):Ags F w F w:=⟨rfl,rfl,rfl,Nat.le_refl _,fun _ _=>rfl,fun _ h=>h,fun _ _ h=>h,h⟩
theorem Ags.alloc {F F':Nat→Prop} {w w':World} (h:Ags F w F' w') (o:Obj):Ags F w F' (w'.alloc o) :=
 ⟨h.os,h.tape,h.output,by have:=h.size; simp; omega,fun b hb=>(G7 w' o (Nat.lt_of_lt_of_le hb h.size)).trans (h.same b hb),h.keepF,h.oldF,fun b hb=>by have:=h.ltF b hb; simp; omega⟩
abbrev eno (n:Int):TV := .ifc 34 (i64 n)
theorem Bmu {n:Int} {id ver:Nat} {p:List (Nat×Nat)} {x x':TV} {H:List Ob} {K:TV→List Ob→Prop} (ho:H[id]?=some (.obj ver x)) (hs2:setP p x (i64 n)=some x') (hk:K (tb true) (H.set id (.obj ver x'))) :
  BD Tryz.prog 31 [eno n,.ifc 83 (.op id ver p)] H K:=by
 intro β F w vs hs hv
 obtain ⟨u,us,rfl,h1,h2⟩:=Ei.cons.1 hv
 obtain ⟨u2,us2,rfl,h3,h4⟩:=Ei.cons.1 h2
 rw [Ei.nil] at h4; subst h4
 -- the two arguments
 have e1:u = .iface 34 (.int .i64 n):=by
  rcases h1 with h | h | ⟨xs0,h,rfl⟩
  ·cases h
  ·cases h
  ·rw [Bc] at h
   obtain ⟨v,rfl,vs,h,rfl⟩:=h
   rw [Bc] at h
   obtain ⟨rfl,_⟩:=h
   rfl
 obtain ⟨b,o,hbo,rfl⟩:∃ b o,β id ver=some (b,o)∧u2 = .iface 83 (.pointer (some ⟨b,o+MM p,none⟩)):=by
  rcases h3 with h | h | ⟨xs0,h,rfl⟩
  ·cases h
  ·cases h
  ·rw [Bc] at h
   obtain ⟨v,rfl,vs,h,rfl⟩:=h
   rw [Bc] at h
   obtain ⟨_,b,o,hb,rfl⟩:=h
   exact ⟨b,o,hb,rfl⟩
 subst e1
 have hgl:=hs.glob.at GK.k
 have hg:w.cell? ⟨1,0,none⟩=some (.iface 175 (.agg #[.pointer (some ⟨10,31,none⟩)])):=hgl 0 _ rfl
 have hrow:∀ c w,Bc c w (i64 n) [.int .i64 n]:=fun c w=>by rw [Bc]; exact ⟨rfl,rfl⟩
 obtain ⟨_,_,ht⟩:=hs.store ho hbo hs2 (hrow _ _)
 obtain ⟨t1,t2⟩:=ht 0 (by simp)
 obtain ⟨old,hold⟩:=Option.isSome_iff_exists.1 t1
 refine (Buy n ⟨b,o+MM p,none⟩ old w hg hold t2).mono ?_
 rintro e w' ⟨rfl,rfl⟩
 have hst:=((((Ags.refl (F:=F) hs.lt).alloc (.cells #[.pointer (some ⟨b,o+MM p,none⟩)] 83)).alloc (.cells #[.pointer (some ⟨10,83,none⟩),.pointer (some ⟨w.heap.size,0,none⟩),.int .u64 150] 127)).alloc (.cells #[.pointer (some ⟨10,83,none⟩),.pointer (some ⟨w.heap.size,0,none⟩),.int .u64 150] 127)).alloc (.cells #[.int .i64 n] 34)
 obtain ⟨k1,k2,_⟩:=(hst.sim hs).store ho hbo hs2 (hrow _ _)
 exact ⟨_,tb true,β,_,F,rfl,hk,k1,hst.later.trans k2,Rep.of_val⟩
theorem Bzy {n:Int}:CE Tryz.prog 8 [eno n] (fun x=>x=i64 n):=by
 refine BD.toPureV (AuU (by simp) ?_)
 simp -dsimp (disch:=first | assumption | omega) only [↓AB,Aj,AA,Az,eq_self,Nat.reduceEqDiff,↓reduceIte,reduceCtorEq,↓Asn]
 refine Bmu (x:=i64 ((0:Nat):Int)) (x':=i64 n) rfl (by rw [ACO]; rfl) ?_
 simp -dsimp (disch:=first | assumption | omega) only [↓AB,Aj,AA,Az,eq_self,Nat.reduceEqDiff,↓reduceIte,reduceCtorEq,↓Asn]
theorem Byb:CE Tryz.prog 8 [.val .nilIface] (fun x=>x=i64 ((0:Nat):Int)):=by
 refine BD.toPureV (AuU (by simp) ?_)
 simp -dsimp (disch:=first | assumption | omega) only [↓AB,Aj,AA,Az,eq_self,Nat.reduceEqDiff,↓reduceIte,reduceCtorEq,↓Asn]
end
section
open Go.RowKit
variable [Cc]
theorem Bpo {K:TV→Prop} [Tg K] (x:TV) (h:K x):vex K:=⟨x,h⟩
theorem Bpx (n:Nat) (h:n<16):CE Tryz.prog 70 [.val (.int .u8 (n:Int))] (fun r=>r=by8 (dig n)):=by
 refine BD.toPureV (AyG (by simp) ?_)
 by_cases h1:n<10
 ·simp -dsimp (disch:=first | assumption | omega) only [↓AB,Aj,AA,Az,eq_self,↓reduceIte,reduceCtorEq,↓AkZ,Anb]
  have e:(48+n) % 256=48+n:=by omega
  rw [e,ACy (by omega)]
  unfold dig; rw [if_pos h1]
 ·simp -dsimp (disch:=first | assumption | omega) only [↓AB,Aj,AA,Az,eq_self,↓reduceIte,reduceCtorEq,↓AkZ,Anb]
  have e:(97+n) % 256=97+n:=by omega
  rw [e]
  simp -dsimp (disch:=first | assumption | omega) only [↓AB,Aj,AA,Az,eq_self,↓reduceIte,↓AkZ,Ux]
  have e2:97+n - 10=87+n:=by omega
  rw [e2,ACy (by omega)]
  unfold dig; rw [if_neg h1]
theorem Bwu {x:UInt8}:Jh 5 .quo (.int .u8 (x.toNat:Int)) (.int .u8 ((16:Nat):Int))=some (.int .u8 ((x.toNat / 16:Nat):Int)):=BtS (by omega) (by have:=x.toNat_lt; omega)
theorem Bzv {a b:TV}:((List.replicate 2 (TV.val (Value.int IntKind.u8 ((0:Nat):Int)))).set 0 a).set 1 b=[a,b]:=by simp [List.replicate]
theorem ABb (l:List UInt8) (hl:l.length=20):CE Tryz.prog 36 [.arr 20 1 (l.map by8)] (fun r=>r = .val (.string (str (FW l)))):=by
 refine BD.toPureV (AB3 (by simp) ?_)
 simp -dsimp (disch:=first | assumption | omega) only [↓AB,Aj,AA,Az,eq_self,Nat.reduceEqDiff,↓reduceIte,↓AsQ]
 refine FU (fun q e H=>∃ (i v:Nat),q=20 - i∧i≤20∧e=[(1,.op 0 0 []),(3,.os 1 1 v [] 0 (2*i) (2*i)),(4,i64 (i:Int))] ∧
  H=[.obj 0 (.arr 20 1 (l.map by8)),.obj v (.arr (2*i) 1 ((FW (l.take i)).map by8))]) 20 ?_ ?_
 ·exact ⟨0,0,by simp,by simp,rfl,by simp [FW]⟩
 ·rintro q e H ⟨i,v,rfl,hi,rfl,rfl⟩
  by_cases h:i<20
  ·have hg:l[i]?=some l[i]:=List.getElem?_eq_getElem (by omega)
   have hsucc:=List.take_succ_eq_append_getElem (l:=l) (i:=i) (by omega)
   have hsn:=AD0 (l.take i) l[i]
   rw [←hsucc] at hsn
   have hlen:(FW (l.take i)).length=2*i:=by rw [Uj,List.length_take]; omega
   generalize hr2:FW (l.take (i+1))=r2 at *
   generalize FW (l.take i)=r at *
   generalize l[i]=c at *
   have hc:=c.toNat_lt
   have htk:(r.map by8).take (2*i)=r.map by8:=List.take_of_length_le (by simp [hlen])
   have htk2:r.take (2*i)=r:=List.take_of_length_le (by omega)
   simp -dsimp (disch:=first | assumption | omega) only [↓AB,Aj,AA,Az,eq_self,Nat.reduceEqDiff,↓reduceIte,↓AsQ,hg,Bwu]
   refine Bpo (by8 (dig (c.toNat / 16))) ⟨(Bpx _ (by omega)).calls rfl (fun x hx=>⟨hx,rfl⟩),?_⟩
   simp -dsimp (disch:=first | assumption | omega) only [↓AB,Aj,AA,Az,eq_self,Nat.reduceEqDiff,↓reduceIte,hg]
   refine (Bpx _ (by omega)).calls rfl ?_
   rintro x rfl
   have t2:[by8 (dig (c.toNat / 16)),by8 (dig (c.toNat % 16))].take 2=[by8 (dig (c.toNat / 16)),by8 (dig (c.toNat % 16))]:=rfl
   simp -dsimp (disch:=first | assumption | omega) only [↓AB,Aj,AA,Az,eq_self,Nat.reduceEqDiff,↓reduceIte,Nat.reduceAdd,Nat.reduceLeDiff,Bzv,htk,t2]
   refine BkL (20 - (i+1)) 2 (by omega) (by simp) rfl (by simp [AqO,AyW,VP]) ⟨i+1,v+1,rfl,by omega,?_,?_⟩
   ·have:2*(i+1)=2*i+2:=by omega
    rw [this]; rfl
   ·have:2*(i+1)=2*i+2:=by omega
    rw [this,hr2,hsn]; simp
  ·have hi2:i=20:=by omega
   subst hi2
   have htl:l.take 20=l:=List.take_of_length_le (by omega)
   have hlen:(FW l).length=40:=by rw [Uj]; omega
   rw [htl]
   have htk:((FW l).map by8).take (2*20)=(FW l).map by8:=List.take_of_length_le (by simp [hlen])
   have htk2:(FW l).take (2*20)=FW l:=List.take_of_length_le (by omega)
   simp -dsimp (disch:=first | assumption | omega) only [↓AB,Aj,AA,Az,eq_self,Nat.reduceLT,Nat.reduceEqDiff,Nat.reduceMul,↓reduceIte,↓AsQ,htk]
end
section
open Go.RowKit
variable [Cc]
def hv (c:UInt8):Nat:=if 48≤c.toNat∧c.toNat≤57 then c.toNat - 48 else if 97≤c.toNat∧c.toNat≤102 then c.toNat - 87 else 16
theorem Bm2:∀ n,n<256→Lib.indexByte Azd (UInt8.ofNat n)=if hv (UInt8.ofNat n)<16 then (hv (UInt8.ofNat n):Int) else -1:=by decide +kernel
theorem Bve (c:UInt8):Lib.indexByte Azd c=if hv c<16 then (hv c:Int) else -1:=by
 have h:=Bm2 c.toNat c.toNat_lt
 rwa [UInt8.ofNat_toNat] at h
theorem AC2:∀ n,n<16→hv (dig n)=n:=by decide
def UM:List UInt8→List UInt8
 | a::b::l=>UInt8.ofNat (hv a*16+hv b)::UM l
 | _=>[]
def FT (s:List UInt8):Bool:=decide (s.length=40) && s.all fun c=>decide (hv c<16)
theorem Uo:∀ {n:Nat} {s:List UInt8},s.length=2*n→(UM s).length=n
 | 0,s,h=>by rw [List.length_eq_zero_iff.1 (by omega:s.length=0)]; rfl
 | n+1,[],h=>by simp at h
 | n+1,[a],h=>by simp at h; omega
 | n+1,a::b::s,h=>by
  rw [UM,List.length_cons,Uo (n:=n) (by simp at h; omega)]
theorem As8:∀ {n:Nat} {s:List UInt8} {a b:UInt8},s.length=2*n→UM (s++[a,b])=UM s++[UInt8.ofNat (hv a*16+hv b)]
 | 0,s,a,b,h=>by rw [List.length_eq_zero_iff.1 (by omega:s.length=0)]; rfl
 | n+1,[],a,b,h=>by simp at h
 | n+1,[x],a,b,h=>by simp at h; omega
 | n+1,x::y::s,a,b,h=>by
  rw [List.cons_append,List.cons_append,UM,UM,As8 (n:=n) (by simp at h; omega),List.cons_append]
theorem ACA {s:List UInt8} {i:Nat} (h:2*i+1<s.length):s.take (2*(i+1))=s.take (2*i)++[s[2*i],s[2*i+1]]:=by
 have e:2*(i+1)=2*i+1+1:=by omega
 rw [e,List.take_succ_eq_append_getElem h,List.take_succ_eq_append_getElem (by omega),List.append_assoc]; rfl
def zer (n:Nat):List UInt8:=List.replicate n 0
theorem Az8:(zer 20).map by8=List.replicate 20 (TV.val (.int .u8 ((0:Nat):Int))):=by simp [zer,by8]
def BC (s:List UInt8):List UInt8:=if FT s then UM s else zer 20
theorem ADe {l:List UInt8} {n:Nat} {b:UInt8} (h:0<n):((l++zer n).map by8).set l.length (by8 b)=((l++[b])++zer (n - 1)).map by8:=by
 obtain ⟨m,rfl⟩:∃ m,n=m+1:=⟨n - 1,by omega⟩
 rw [←List.map_set,List.set_append_right _ _ (Nat.le_refl _),Nat.sub_self,Nat.add_sub_cancel]
 simp [zer,List.replicate_succ]
theorem BpI (l:List UInt8) (c:UInt8):CE Tryz.prog 136 [.val (.string (str l)),by8 c] (fun x=>x = .val (.int .i64 (Lib.indexByte l c))):=by
 refine BD.toPureV (AmM (by simp) ?_)
 simp -dsimp (disch:=first | assumption | omega) only [↓AB,Aj,AA,Az,eq_self,Nat.reduceEqDiff,↓reduceIte,Nat.reduceAdd,reduceCtorEq,↓YF]
 refine (ABk l c).calls rfl ?_
 rintro x rfl
 simp -dsimp (disch:=first | assumption | omega) only [↓AB,Aj,AA,Az,eq_self,↓reduceIte,↓YF]
theorem Bzt {a b:Nat} (ha:a<16) (hb:b<16):a*2 ^ 4 ||| b=a*16+b:=by
 have h:=Nat.two_pow_add_eq_or_of_lt (i:=4) (b:=b) (by omega) a
 rw [Nat.mul_comm] at h
 rw [←h]
theorem AdR {s:List UInt8} (h:s.length=40):FT s=true↔∀ c∈s,hv c<16:=by
 unfold FT
 rw [Bool.and_eq_true,List.all_eq_true]
 simp [h]
theorem Buh (s:List UInt8) (hs:s.length≤1000000):CE Tryz.prog 105 [.val (.string (str s))] (fun r=>r = .tup [.arr 20 1 ((BC s).map by8),if FT s then .val .nilIface else eno 12]):=by
 refine BD.toPureV (Avk (by simp) ?_)
 by_cases h40:s.length=40
 case neg =>
  have hok:FT s=false:=by unfold FT; rw [Bool.and_eq_false_iff]; left; simpa using h40
  unfold BC
  rw [hok,if_neg (by simp),if_neg (by simp),Az8]
  simp -dsimp (disch:=first | assumption | omega) only [↓AB,Aj,AA,Az,eq_self,Nat.reduceEqDiff,↓reduceIte,reduceCtorEq,↓LV,ZY]
  rfl
 simp -dsimp (disch:=first | assumption | omega) only [↓AB,Aj,AA,Az,eq_self,Nat.reduceEqDiff,↓reduceIte,reduceCtorEq,↓LV,ZY]
 refine FU (fun q e H=>∃ i:Nat,q=20 - i∧i≤20∧(∀ c∈s.take (2*i),hv c<16)∧e=[(0,.val (.string (str s))),(2,.op 0 0 []),(4,.op 1 0 []),(13,i64 (i:Int))] ∧
  H=[.obj 0 (.arr 20 1 ((zer 20).map by8)),.obj 0 (.arr 20 1 ((UM (s.take (2*i))++zer (20 - i)).map by8))]) 20 ?_ ?_
 ·exact ⟨0,by simp,by simp,by simp,rfl,rfl⟩
 ·rintro q e H ⟨i,rfl,hi,hall,rfl,rfl⟩
  by_cases h:i<20
  ·have h1:2*i<s.length:=by omega
   have h2:2*i+1<s.length:=by omega
   have hg1:s[2*i]?=some s[2*i]:=List.getElem?_eq_getElem h1
   have hg2:s[2*i+1]?=some s[2*i+1]:=List.getElem?_eq_getElem h2
   have htw:=ACA h2
   have hpl:(UM (s.take (2*i))).length=i:=Uo (by rw [List.length_take]; omega)
   have hps:=As8 (n:=i) (s:=s.take (2*i)) (a:=s[2*i]) (b:=s[2*i+1]) (by rw [List.length_take]; omega)
   rw [←htw] at hps
   have hm1:=List.getElem_mem h1
   have hm2:=List.getElem_mem h2
   have hmem:∀ c∈s.take (2*(i+1)),c∈s.take (2*i)∨c=s[2*i]∨c=s[2*i+1]:=by
    intro c hc
    rw [htw,List.mem_append] at hc
    rcases hc with hc | hc
    ·exact .inl hc
    ·simp only [List.mem_cons,List.not_mem_nil,or_false] at hc; exact .inr hc
   generalize s[2*i]=a at *
   generalize s[2*i+1]=b at *
   generalize hP:UM (s.take (2*i))=P at *
   have hsf:=ADe (l:=P) (n:=20 - i) (b:=UInt8.ofNat (hv a*16+hv b)) (by omega)
   rw [hpl] at hsf
   have hget:(P++zer (20 - i))[i]?=some 0:=by
    rw [List.getElem?_append_right (by omega),hpl,Nat.sub_self]
    unfold zer; rw [List.getElem?_replicate,if_pos (by omega)]
   have hlp:(P++zer (20 - i)).length=20:=by rw [List.length_append,hpl,zer,List.length_replicate]; omega
   simp -dsimp (disch:=first | assumption | omega) only [↓AB,Aj,AA,Az,eq_self,Nat.reduceEqDiff,↓reduceIte,reduceCtorEq,↓LV,ZY,hg1]
   refine Bpo (.val (.int .i64 (Lib.indexByte Azd a))) ⟨(BpI Azd a).calls rfl (fun x hx=>⟨hx,rfl⟩),?_⟩
   rw [Bve a]
   simp -dsimp (disch:=first | assumption | omega) only [↓AB,Aj,AA,Az,eq_self,Nat.reduceEqDiff,↓reduceIte,reduceCtorEq,ZY,hg2]
   refine (BpI Azd b).calls rfl ?_
   rintro x rfl
   rw [Bve b]
   by_cases ha:hv a<16
   ·rw [if_pos ha]
    by_cases hb:hv b<16
    ·rw [if_pos hb]
     have ho:=Bzt ha hb
     simp -dsimp (disch:=first | assumption | omega) only [↓AB,Aj,AA,Az,eq_self,Nat.reduceEqDiff,Nat.reducePow,↓reduceIte,Nat.reduceAdd,reduceCtorEq,ho,hget,hsf]
     refine BQ (20 - (i+1)) (by omega) (by simp) ⟨i+1,rfl,by omega,fun c hc => ?_,rfl,?_⟩
     ·rcases hmem c hc with hc | rfl | rfl
      ·exact hall c hc
      ·exact ha
      ·exact hb
     ·rw [hps,show 20 - (i+1)=20 - i - 1 from by omega]
    ·rw [if_neg hb]
     have hok:FT s=false:=by
      cases hq:FT s with
      | false=>rfl
      | true=>exact absurd ((AdR h40).1 hq b hm2) hb
     unfold BC
     rw [hok,if_neg (by simp),if_neg (by simp),Az8]
     simp -dsimp (disch:=first | assumption | omega) only [↓AB,Aj,AA,Az,eq_self,Nat.reduceEqDiff,↓reduceIte,reduceCtorEq,↓LV]
     rfl
   ·rw [if_neg ha]
    have hok:FT s=false:=by
     cases hq:FT s with
     | false=>rfl
     | true=>exact absurd ((AdR h40).1 hq a hm1) ha
    unfold BC
    rw [hok,if_neg (by simp),if_neg (by simp),Az8]
    simp -dsimp (disch:=first | assumption | omega) only [↓AB,Aj,AA,Az,eq_self,Nat.reduceEqDiff,↓reduceIte,reduceCtorEq,↓LV]
    rfl
  ·have hi2:i=20:=by omega
   subst hi2
   have htl:s.take (2*20)=s:=List.take_of_length_le (by omega)
   rw [htl] at hall
   have hok:FT s=true:=(AdR h40).2 hall
   have hpl:(UM s).length=20:=Uo (by omega)
   unfold BC
   rw [hok,if_pos rfl,if_pos rfl,htl]
   simp -dsimp (disch:=first | assumption | omega) only [↓AB,Aj,AA,Az,eq_self,Nat.reduceLT,Nat.reduceEqDiff,Nat.reduceSub,↓reduceIte,reduceCtorEq,↓LV]
   simp [zer]
def Ara:List UInt8→List UInt8
 | a::b::l=>UInt8.ofNat (hv a*16+hv b)::Ara l
 | [a]=>[UInt8.ofNat (hv a)]
 | []=>[]
theorem AgM:∀ {n:Nat} {s:List UInt8},s.length=2*n→Ara s=UM s
 | 0,s,h=>by rw [List.length_eq_zero_iff.1 (by omega:s.length=0)]; rfl
 | n+1,[],h=>by simp at h
 | n+1,[a],h=>by simp at h; omega
 | n+1,a::b::s,h=>by rw [Ara,UM,AgM (n:=n) (by simp at h; omega)]
theorem As0:∀ {n:Nat} {s:List UInt8} {a:UInt8},s.length=2*n→Ara (s++[a])=UM s++[UInt8.ofNat (hv a)]
 | 0,s,a,h=>by rw [List.length_eq_zero_iff.1 (by omega:s.length=0)]; rfl
 | n+1,[],a,h=>by simp at h
 | n+1,[x],a,h=>by simp at h; omega
 | n+1,x::y::s,a,h=>by rw [List.cons_append,List.cons_append,Ara,UM,As0 (n:=n) (by simp at h; omega),List.cons_append]
theorem BkT {s:List UInt8} {c:UInt8} (h40:s.length=40) (hm:c∈s) (hc:¬ hv c<16):FT s=false:=by
 cases hq:FT s with
 | false=>rfl
 | true=>exact absurd ((AdR h40).1 hq c hm) hc
theorem Bu2 {c:UInt8} (h1:48≤c.toNat) (h2:c.toNat≤57):hv c=c.toNat - 48:=by unfold hv; rw [if_pos ⟨h1,h2⟩]
theorem BuM {c:UInt8} (h1:97≤c.toNat) (h2:c.toNat≤102):hv c=c.toNat - 87:=by unfold hv; rw [if_neg (by omega),if_pos ⟨h1,h2⟩]
theorem BuE {c:UInt8} (h1:¬ (48≤c.toNat∧c.toNat≤57)) (h2:¬ (97≤c.toNat∧c.toNat≤102)):hv c=16:=by unfold hv; rw [if_neg h1,if_neg h2]
theorem Bjz {s:List UInt8} {i:Nat} (h40:s.length=40) (h:i<40) (hall:∀ c∈s.take i,hv c<16) {n:Nat} (hn:hv s[i]=n) (hn16:n<16) :
  ∃ old:UInt8,(Ara (s.take i)++zer (20 - (i+1) / 2))[i / 2]?=some old∧((Ara (s.take i)++zer (20 - (i+1) / 2)).map by8).set (i / 2) (.val (.int .u8 (((old.toNat*16 % 256+n) % 256:Nat):Int)))=(Ara (s.take (i+1))++zer (20 - (i+1+1) / 2)).map by8:=by
 have hsucc:=List.take_succ_eq_append_getElem (l:=s) (i:=i) (by omega)
 rcases Nat.mod_two_eq_zero_or_one i with hp | hp
 ·obtain ⟨k,rfl⟩:∃ k,i=2*k:=⟨i / 2,by omega⟩
  have hl:(s.take (2*k)).length=2*k:=by rw [List.length_take]; omega
  have hpl:(UM (s.take (2*k))).length=k:=Uo hl
  have e1:20 - (2*k+1) / 2=20 - k:=by omega
  have e2:2*k / 2=k:=by omega
  have e3:20 - (2*k+1+1) / 2=20 - k - 1:=by omega
  rw [AgM hl,hsucc,As0 hl,e1,e2,e3,hn]
  refine ⟨0,?_,?_⟩
  ·rw [List.getElem?_append_right (by omega),hpl,Nat.sub_self]
   unfold zer; rw [List.getElem?_replicate,if_pos (by omega)]
  ·have hsf:=ADe (l:=UM (s.take (2*k))) (n:=20 - k) (b:=UInt8.ofNat n) (by omega)
   rw [hpl] at hsf
   have e4:((0:UInt8).toNat*16 % 256+n) % 256=n:=by
    have:(0:UInt8).toNat=0:=rfl
    rw [this]; omega
   rw [e4,ACy (by omega),hsf]
 ·obtain ⟨k,rfl⟩:∃ k,i=2*k+1:=⟨i / 2,by omega⟩
  have hl0:(s.take (2*k)).length=2*k:=by rw [List.length_take]; omega
  have hpl0:(UM (s.take (2*k))).length=k:=Uo hl0
  have ht0:=List.take_succ_eq_append_getElem (l:=s) (i:=2*k) (by omega)
  have hl:(s.take (2*(k+1))).length=2*(k+1):=by rw [List.length_take]; omega
  have htw:=ACA (s:=s) (i:=k) (by omega)
  have hm:s[2*k]∈s.take (2*k+1):=by rw [ht0]; exact List.mem_append_right _ (List.mem_singleton.2 rfl)
  have hx:=hall _ hm
  have e1:20 - (2*k+1+1) / 2=19 - k:=by omega
  have e2:(2*k+1) / 2=k:=by omega
  have e3:20 - (2*k+1+1+1) / 2=19 - k:=by omega
  have e5:s.take (2*k+1+1)=s.take (2*(k+1)):=rfl
  rw [e5,AgM hl,htw,As8 hl0,ht0,As0 hl0,e1,e2,e3,hn]
  refine ⟨UInt8.ofNat (hv s[2*k]),?_,?_⟩
  ·rw [List.getElem?_append_left (by simp; omega),List.getElem?_append_right (by omega),hpl0,Nat.sub_self]; rfl
  ·have e4:((UInt8.ofNat (hv s[2*k])).toNat*16 % 256+n) % 256=hv s[2*k]*16+n:=by
    rw [UInt8.toNat_ofNat',Nat.mod_eq_of_lt (show hv s[2*k]<2 ^ 8 by omega)]; omega
   rw [e4,ACy (by omega),←List.map_set]
   congr 1
   rw [List.append_assoc,List.set_append_right _ _ (by omega),hpl0,Nat.sub_self,List.append_assoc]
   rfl
theorem Bzs {i:Nat} (h:i≤40):Jh 3 .quo (.int .i64 (i:Int)) (.int .i64 ((2:Nat):Int))=some (.int .i64 ((i / 2:Nat):Int)):=Bji (by omega) (by omega)
theorem Avn (s:List UInt8) (hs:s.length≤1000000):CE Tryz.prog 77 [.val (.string (str s))] (fun r=>r = .tup [.arr 20 1 ((BC s).map by8),tb (FT s)]):=by
 refine BD.toPureV (Ax9 (by simp) ?_)
 by_cases h40:s.length=40
 case neg =>
  have hok:FT s=false:=by unfold FT; rw [Bool.and_eq_false_iff]; left; simpa using h40
  unfold BC
  rw [hok,if_neg (by simp),Az8]
  simp -dsimp (disch:=first | assumption | omega) only [↓AB,Aj,AA,Az,eq_self,Nat.reduceEqDiff,↓reduceIte,reduceCtorEq,↓Lh,ZY]
  rfl
 simp -dsimp (disch:=first | assumption | omega) only [↓AB,Aj,AA,Az,eq_self,Nat.reduceEqDiff,↓reduceIte,reduceCtorEq,↓Lh,ZY]
 refine FU (fun q e H=>∃ i:Nat,q=40 - i∧i≤40∧(∀ c∈s.take i,hv c<16)∧e=[(0,.val (.string (str s))),(2,.op 0 0 []),(4,.op 1 0 []),(5,i64 (i:Int))] ∧
  H=[.obj 0 (.arr 20 1 ((zer 20).map by8)),.obj 0 (.arr 20 1 ((Ara (s.take i)++zer (20 - (i+1) / 2)).map by8))]) 40 ?_ ?_
 ·exact ⟨0,by simp,by simp,by simp,rfl,rfl⟩
 ·rintro q e H ⟨i,rfl,hi,hall,rfl,rfl⟩
  by_cases h:i<40
  ·have hg1:s[i]?=some s[i]:=List.getElem?_eq_getElem (by omega)
   have hsucc:=List.take_succ_eq_append_getElem (l:=s) (i:=i) (by omega)
   have hm:=List.getElem_mem (l:=s) (n:=i) (by omega)
   have hall2:hv s[i]<16→∀ c∈s.take (i+1),hv c<16:=by
    intro hx c hc
    rw [hsucc,List.mem_append,List.mem_singleton] at hc
    rcases hc with hc | rfl
    ·exact hall c hc
    ·exact hx
   have hst:=fun n=>Bjz h40 h hall (n:=n)
   have hbad:=fun hc=>BkT h40 hm hc
   have hd2:=Bzs (i:=i) (by omega)
   have hlt:=s[i].toNat_lt
   have hl2:i / 2<20:=by omega
   generalize s[i]=c at *
   by_cases h1:48≤c.toNat∧c.toNat≤57
   ·obtain ⟨h1,h2⟩:=h1
    have hc:=Bu2 h1 h2
    obtain ⟨old,g1,g2⟩:=hst _ hc (by omega)
    have hol:=old.toNat_lt
    simp -dsimp (disch:=first | assumption | omega) only [↓AB,Aj,AA,Az,eq_self,Nat.reduceEqDiff,↓reduceIte,Nat.reduceAdd,reduceCtorEq,↓Lh,ZY,hg1,Ux,hd2,Bpz,Anb,g1,g2]
    exact BQ (40 - (i+1)) (by omega) (by simp) ⟨i+1,rfl,by omega,hall2 (by omega),rfl,rfl⟩
   ·by_cases h3:97≤c.toNat∧c.toNat≤102
    ·obtain ⟨h3,h4⟩:=h3
     have hc:=BuM h3 h4
     obtain ⟨old,g1,g2⟩:=hst _ hc (by omega)
     have e9:(c.toNat - 97+10) % 256=c.toNat - 87:=by omega
     simp -dsimp (disch:=first | assumption | omega) only [↓AB,Aj,AA,Az,eq_self,Nat.reduceEqDiff,↓reduceIte,Nat.reduceAdd,reduceCtorEq,↓Lh,ZY,hg1,Ux,hd2,Bpz,Anb,e9,g1,g2]
     exact BQ (40 - (i+1)) (by omega) (by simp) ⟨i+1,rfl,by omega,hall2 (by omega),rfl,rfl⟩
    ·have hc:=BuE h1 h3
     have hok:=hbad (by omega)
     unfold BC
     rw [hok,if_neg (by simp),Az8]
     rcases (by omega:c.toNat<48∨(57<c.toNat∧c.toNat<97)∨102<c.toNat) with h5 | ⟨h5,h6⟩ | h5
     ·simp -dsimp (disch:=first | assumption | omega) only [↓AB,Aj,AA,Az,eq_self,Nat.reduceEqDiff,↓reduceIte,reduceCtorEq,↓Lh,ZY,hg1]
      rfl
     ·simp -dsimp (disch:=first | assumption | omega) only [↓AB,Aj,AA,Az,eq_self,Nat.reduceEqDiff,↓reduceIte,reduceCtorEq,↓Lh,ZY,hg1]
      rfl
     ·simp -dsimp (disch:=first | assumption | omega) only [↓AB,Aj,AA,Az,eq_self,Nat.reduceEqDiff,↓reduceIte,reduceCtorEq,↓Lh,ZY,hg1]
      rfl
  ·have hi2:i=40:=by omega
   subst hi2
   have htl:s.take 40=s:=List.take_of_length_le (by omega)
   rw [htl] at hall
   have hok:FT s=true:=(AdR h40).2 hall
   have hpl:(UM s).length=20:=Uo (by omega)
   unfold BC
   rw [hok,if_pos rfl,htl,AgM (n:=20) (by omega)]
   simp -dsimp (disch:=first | assumption | omega) only [↓AB,Aj,AA,Az,eq_self,Nat.reduceLT,Nat.reduceEqDiff,Nat.reduceSub,Nat.reduceDiv,↓reduceIte,Nat.reduceAdd,reduceCtorEq,↓Lh]
   simp [zer,tb]
end
section
open Go.RowKit
variable [Cc] [AX] [Ba] [Bd] [GH]
theorem Aw7 (c:UInt8):∀ l:List UInt8,Lib.index l [c]=Lib.indexByte l c
 | []=>rfl
 | b::l=>by
  rw [Lib.index,Lib.indexByte,Aw7 c l]
  by_cases e:b=c
  ·subst e; simp
  ·have h1:([c].isPrefixOf (b::l))=false:=by simp [List.isPrefixOf,Ne.symm e]
   have h2:(b == c)=false:=by simpa using e
   rw [h1,h2]
theorem Bqi (s:List UInt8):Lib.cut s [10]=(match QO 10 s with | some i=>(s.take i,s.drop (i+1),true) | none=>(s,[],false)):=by
 unfold Lib.cut
 rw [Aw7,Ar4]
 cases QO 10 s with
 | none=>simp
 | some i=>simp
theorem BnL {H:List Ob} {id:Nat} {x:Ob} (h:H[id]?=some x):H.set id x=H:=by
 apply List.ext_getElem?
 intro i
 rw [List.getElem?_set]
 by_cases e:id=i
 ·subst e
  obtain ⟨h1,h2⟩:=List.getElem?_eq_some_iff.1 h
  rw [if_pos rfl,if_pos h1,h]
 ·rw [if_neg e]
theorem BsR {s w:List UInt8} (hs:s.length≤1000000) (hw:w.length≤100) {β:Bool} {id v:Nat} {H:List Ob} (ho:H[id]?=some (.obj v (.agg [ts s,tb β]))) {K:TV→List Ob→Prop}
  (hK:K (.tup [ts (mv w s),tb (!mb w s)]) (H.set id (.obj v (.agg [ts (mr w s),tb β])))):BD Tryz.prog 79 [.op id v [],ts w] H K:=by
 refine Akn (by simp) ?_
 have hid:id<H.length:=(List.getElem?_eq_some_iff.1 ho).1
 simp -dsimp (disch:=first | assumption | omega | (simp only [Aa];try omega)) only [↓AB,Aj,AA,Az,eq_self,Nat.reduceEqDiff,↓reduceIte,Nat.reduceAdd,reduceCtorEq,↓AiT,↓Ab8,ho]
 refine (Bo0 s [10] hs).calls rfl fun x hx => ?_
 subst hx
 rw [Bqi]
 have hsame:=BnL ho
 unfold mv mr mb Aqe at hK
 have hcp:=fun l=>AwY l (w++[32])
 cases hc:QO 10 s with
 | none =>
  rw [hc] at hK
  simp only [Option.isNone_none,Bool.not_true] at hK
  rw [hsame] at hK
  simp only
  simp -dsimp (disch:=first | assumption | omega | (simp only [Aa];try omega)) only [↓AB,Aj,AA,Az,eq_self,Nat.reduceEqDiff,↓reduceIte,reduceCtorEq,↓NQ,Aam]
  refine (hcp s).calls rfl fun x hx => ?_
  subst hx
  simp -dsimp (disch:=first | assumption | omega | (simp only [Aa];try omega)) only [↓AB,Aj,AA,Az,eq_self,Nat.reduceEqDiff,↓reduceIte,reduceCtorEq,↓JE,↓L8]
  exact hK
 | some i =>
  rw [hc] at hK
  simp only at hK ⊢
  simp -dsimp (disch:=first | assumption | omega | (simp only [Aa];try omega)) only [↓AB,Aj,AA,Az,eq_self,Nat.reduceEqDiff,↓reduceIte,reduceCtorEq,↓NQ,Aam]
  refine (hcp (s.take i)).calls rfl fun x hx => ?_
  subst hx
  unfold Lib.trimPrefix Lib.hasPrefix
  by_cases hp:(w++[32]).isPrefixOf (s.take i)=true
  ·rw [if_pos hp] at hK ⊢
   rw [hp]
   simp only [Option.isNone_some,Bool.not_false] at hK
   simp -dsimp (disch:=first | assumption | omega | (simp only [Aa];try omega)) only [↓AB,Aj,AA,Az,eq_self,Nat.reduceEqDiff,↓reduceIte,reduceCtorEq,↓JE,↓L8,ho]
   exact hK
  ·rw [if_neg hp] at hK ⊢
   have hp2:(w++[32]).isPrefixOf (s.take i)=false:=Bool.eq_false_iff.2 hp
   rw [hp2]
   simp only [Option.isNone_none,Bool.not_true] at hK
   rw [hsame] at hK
   simp -dsimp (disch:=first | assumption | omega | (simp only [Aa];try omega)) only [↓AB,Aj,AA,Az,eq_self,Nat.reduceEqDiff,↓reduceIte,reduceCtorEq,↓JE,↓L8]
   exact hK
theorem Bj9 {s w:List UInt8} (hs:s.length≤1000000) (hw:w.length≤100) {β:Bool} {id v:Nat} {H:List Ob} (ho:H[id]?=some (.obj v (.agg [ts s,tb β]))) {K:TV→List Ob→Prop}
  (hK:K (ts (mv w s)) (H.set id (.obj v (.agg [ts (mr w s),tb (β || mb w s)])))):BD Tryz.prog 72 [.op id v [],ts w] H K:=by
 refine Aly (by simp) ?_
 have hid:id<H.length:=(List.getElem?_eq_some_iff.1 ho).1
 simp -dsimp (disch:=first | assumption | omega | (simp only [Aa];try omega)) only [↓AB,Aj,AA,Az,eq_self,Nat.reduceEqDiff,↓reduceIte,Nat.reduceAdd,reduceCtorEq,↓AiQ,↓Ab2]
 refine Aqa (BsR hs hw ho ?_)
 have ho2:(H.set id (.obj v (.agg [ts (mr w s),tb β])))[id]?=some (.obj v (.agg [ts (mr w s),tb β])):=by rw [List.getElem?_set,if_pos rfl,if_pos hid]
 have hset:∀ x:Ob,(H.set id (.obj v (.agg [ts (mr w s),tb β]))).set id x=H.set id x:=fun x=>List.set_set ..
 generalize H.set id (.obj v (.agg [ts (mr w s),tb β]))=H1 at *
 cases hb:mb w s with
 | false =>
  rw [hb] at hK
  cases β with
  | false =>
   simp -dsimp (disch:=first | assumption | omega | (simp only [Aa];try omega)) only [↓AB,Aj,AA,Az,eq_self,Nat.reduceEqDiff,↓reduceIte,Nat.reduceAdd,reduceCtorEq,↓Gv,↓I5,ho2,hset]
   exact hK
  | true =>
   simp -dsimp (disch:=first | assumption | omega | (simp only [Aa];try omega)) only [↓AB,Aj,AA,Az,eq_self,Nat.reduceEqDiff,↓reduceIte,Nat.reduceAdd,reduceCtorEq,↓Gv,↓I5,ho2,hset]
   exact hK
 | true =>
  rw [hb] at hK
  cases β with
  | false =>
   simp -dsimp (disch:=first | assumption | omega | (simp only [Aa];try omega)) only [↓AB,Aj,AA,Az,eq_self,Nat.reduceEqDiff,↓reduceIte,Nat.reduceAdd,reduceCtorEq,↓Gv,↓I5,ho2,hset]
   exact hK
  | true =>
   simp -dsimp (disch:=first | assumption | omega | (simp only [Aa];try omega)) only [↓AB,Aj,AA,Az,eq_self,Nat.reduceEqDiff,↓reduceIte,Nat.reduceAdd,reduceCtorEq,↓Gv,↓I5,ho2,hset]
   exact hK
theorem idV {s x:List UInt8} (hx:x.length≤1000000) {β:Bool} {id v:Nat} {H:List Ob} (ho:H[id]?=some (.obj v (.agg [ts s,tb β]))) {K:TV→List Ob→Prop}
  (hK:K (.arr 20 1 ((BC x).map by8)) (H.set id (.obj v (.agg [ts s,tb (β || !FT x)]))++[.obj 0 (.arr 20 1 ((BC x).map by8))]++[.obj 0 (.arr 20 1 ((BC x).map by8))])):BD Tryz.prog 71 [.op id v [],ts x] H K:=by
 refine ApJ (by simp) ?_
 have hid:id<H.length:=(List.getElem?_eq_some_iff.1 ho).1
 have hpl:((BC x).map by8).length=20:=by
  unfold BC
  split
  ·rename_i h
   unfold FT at h
   simp at h
   rw [List.length_map,Uo (n:=20) (by omega)]
  ·simp [zer]
 simp -dsimp (disch:=first | assumption | omega | (simp only [Aa];try omega)) only [↓AB,Aj,AA,Az,eq_self,Nat.reduceEqDiff,↓reduceIte,Nat.reduceAdd,reduceCtorEq,↓AmB,↓AgC]
 refine (Buh x hx).calls rfl fun r hr => ?_
 subst hr
 cases hb:FT x<;>rw [hb] at hK<;>cases β
 all_goals
  simp only [if_true,Bool.false_eq_true,if_false]
  simp -dsimp (disch:=first | assumption | omega | (simp only [Aa];try omega)) only [↓AB,Aj,AA,Az,eq_self,Nat.reduceEqDiff,↓reduceIte,Nat.reduceAdd,reduceCtorEq,↓AgU,↓AmW,ho]
  exact hK
theorem AB1 {s w:List UInt8} (hs:s.length≤1000000) (hw:w.length≤100) {β:Bool} {id v:Nat} {H:List Ob} (ho:H[id]?=some (.obj v (.agg [ts s,tb β]))) {K:TV→List Ob→Prop}
  (hK:∀ (q:Per) (ok:Bool),(ok=true→EW q∧I8 q=mv w s)→(ok=false→∀ p,EW p→I8 p≠mv w s) →
   K (OL q) (H.set id (.obj v (.agg [ts (mr w s),tb (β || mb w s || !ok)]))++[.obj 0 (OL q)]++[.obj 0 (OL q)])):BD Tryz.prog 74 [.op id v [],ts w] H K:=by
 refine Af7 (by simp) ?_
 have hid:id<H.length:=(List.getElem?_eq_some_iff.1 ho).1
 have hml:=V6 w s
 simp -dsimp (disch:=first | assumption | omega | (simp only [Aa];try omega)) only [↓AB,Aj,AA,Az,eq_self,Nat.reduceEqDiff,↓reduceIte,Nat.reduceAdd,reduceCtorEq,↓AfH,↓Y6]
 refine Aqa (Bj9 hs hw (by rw [List.getElem?_append_left hid]; exact ho) ?_)
 rw [List.set_append_left _ _ hid]
 have ho2:(H.set id (.obj v (.agg [ts (mr w s),tb (β || mb w s)])))[id]?=some (.obj v (.agg [ts (mr w s),tb (β || mb w s)])):=by rw [List.getElem?_set,if_pos rfl,if_pos hid]
 have hset:∀ x:Ob,(H.set id (.obj v (.agg [ts (mr w s),tb (β || mb w s)]))).set id x=H.set id x:=fun x=>List.set_set ..
 have hln:(H.set id (.obj v (.agg [ts (mr w s),tb (β || mb w s)]))).length=H.length:=List.length_set ..
 have hrp:=ABj (mv w s) (by omega)
 generalize mv w s=x at *
 generalize (β || mb w s)=β1 at *
 generalize mr w s=rest at *
 generalize H.set id (.obj v (.agg [ts rest,tb β1]))=H1 at *
 rw [←hln] at hid ⊢
 simp -dsimp (disch:=first | assumption | omega | (simp only [Aa];try omega)) only [↓AB,Aj,AA,Az,eq_self,↓reduceIte]
 refine hrp.calls rfl fun r hr => ?_
 obtain ⟨q,ok,rfl,h1,h2⟩:∃ (q:Per) (ok:Bool),r = .tup [OL q,tb ok]∧(ok=true→EW q∧I8 q=x)∧(ok=false→∀ p,EW p→I8 p≠x):=by
  by_cases h:∃ p,EW p∧I8 p=x
  ·obtain ⟨p,hp,e⟩:=h
   exact ⟨p,true,hr.1 p hp e,fun _=>⟨hp,e⟩,fun h=>(by cases h)⟩
  ·have h':∀ p,EW p→I8 p≠x:=fun p hp e=>h ⟨p,hp,e⟩
   obtain ⟨q,_,hq⟩:=hr.2 h'
   exact ⟨q,false,hq,fun h=>(by cases h),fun _=>h'⟩
 have hK2:=hK q ok h1 h2
 clear hr hrp h1 h2 hK
 cases ok<;>cases β1
 all_goals
  simp -dsimp (disch:=first | assumption | omega | (simp only [Aa];try omega)) only [↓AB,Aj,AA,Az,eq_self,Nat.reduceEqDiff,↓reduceIte,Nat.reduceAdd,reduceCtorEq,↓YY,↓Ads,ho2,hset]
  exact hK2
theorem AAD {s:List UInt8} {β:Bool} {id v:Nat} {H:List Ob} (ho:H[id]?=some (.obj v (.agg [ts s,tb β]))) {K:TV→List Ob→Prop}
  (hK:K (ts (Lib.trimPrefix s [10])) (H.set id (.obj v (.agg [ts s,tb (β || !Lib.hasPrefix s [10] || !Wq (Lib.trimPrefix s [10]))])))):BD Tryz.prog 75 [.op id v []] H K:=by
 refine AfL (by simp) ?_
 have hid:id<H.length:=(List.getElem?_eq_some_iff.1 ho).1
 simp -dsimp (disch:=first | assumption | omega | (simp only [Aa];try omega)) only [↓AB,Aj,AA,Az,eq_self,↓reduceIte,reduceCtorEq,↓Ach,↓XT,ho]
 refine (AwY s [10]).calls rfl fun x hx => ?_
 subst hx
 generalize Lib.trimPrefix s [10]=m at *
 generalize Lib.hasPrefix s [10]=b at *
 have hm:=Bni m
 generalize Wq m=g at *
 cases β<;>cases b
 case false.true =>
  simp -dsimp (disch:=first | assumption | omega | (simp only [Aa];try omega)) only [↓AB,Aj,AA,Az,eq_self,Nat.reduceEqDiff,↓reduceIte,Nat.reduceAdd,reduceCtorEq,↓MC,ho]
  refine hm.calls rfl fun x hx => ?_
  subst hx
  cases g
  all_goals
   simp -dsimp (disch:=first | assumption | omega | (simp only [Aa];try omega)) only [↓AB,Aj,AA,Az,eq_self,Nat.reduceEqDiff,↓reduceIte,Nat.reduceAdd,reduceCtorEq,↓NK,ho]
   exact hK
 all_goals
  simp -dsimp (disch:=first | assumption | omega | (simp only [Aa];try omega)) only [↓AB,Aj,AA,Az,eq_self,Nat.reduceEqDiff,↓reduceIte,Nat.reduceAdd,reduceCtorEq,↓MC,↓NK,ho]
  simpa using hK
end
section
open Go.RowKit
variable [Cc]
def Buf (H:List Ob) (r:TV) (l:List UInt8):Option Nat→Prop
 | none=>r = .val (.slice none 0 0)∧l=[]
 | some j=>∃ v,r = .os 1 j v [] 0 l.length l.length∧H[j]?=some (.bld v 5 l)
end
section
open Go.RowKit
variable [Cc]
structure LO (H:List Ob) (l:List UInt8):Prop where
 ex:∃ a r,H[0]?=some (.obj 0 (.agg [a,r]))∧Blq 0 0 [] a∧Buf H r l (some 2)
 fact:H[1]?=some (.fact 0 0 118 2)
end
section
open Go.RowKit
variable [Cc] [AX] [Ba] [Bd] [GH] [BI]
structure Bl7 where
 id:List UInt8
 kind:Int
 name:List UInt8
 who:Per
 msg:List UInt8
abbrev tgT (t:Bl7):TV := .agg [.arr 20 1 (t.id.map by8),i64 t.kind,ts t.name,OL t.who,ts t.msg]
def ACZ (t:Bl7):Prop:=t.id.length=20∧EK t.kind≠none∧EW t.who∧Wx t.name=true∧Wq t.msg=true
def tgB (t:Bl7):List UInt8:=AAM (FW t.id) ((EK t.kind).getD []) t.name (I8 t.who) t.msg
def Bpj (t:Bl7):Prop:=t.id.length=20∧(-9223372036854775808≤t.kind∧t.kind≤9223372036854775807)∧Qq t.who∧t.name.length≤1000000
theorem BoM {p:Per} (h:EW p):(I8 p).length≤200:=by
 obtain ⟨n,m,t,z⟩:=p
 obtain ⟨h1,h2,h3,h4,_⟩:=h
 simp only at h3 h4
 have e1:=ADC t.toNat
 have e2:=Lib.nDigits_le20 t.toNat (by omega)
 have a:=h1.1
 have b:=h2.1
 simp only at *
 rw [AlV]
 simp only [List.length_append,List.length_cons,List.length_nil,AcX]
 omega
end
section
open Go.RowKit
variable [Cc]
theorem AAc:∀ (l:List UInt8),UM (FW l)=l
 | []=>rfl
 | x::l=>by
  have e:FW (x::l)=dig (x.toNat / 16)::dig (x.toNat % 16)::FW l:=rfl
  have hx:=x.toNat_lt
  rw [e,UM,AAc l,AC2 _ (by omega),AC2 _ (by omega)]
  have:x.toNat / 16*16+x.toNat % 16=x.toNat:=by omega
  rw [this,UInt8.ofNat_toNat]
theorem Awa {l:List UInt8} (h:l.length=20):FT (FW l)=true:=by
 rw [AdR (by rw [Uj]; omega)]
 intro c hc
 obtain ⟨x,_,hc⟩:=List.mem_flatMap.1 hc
 have hx:=x.toNat_lt
 simp only [List.mem_cons,List.not_mem_nil,or_false] at hc
 rcases hc with rfl | rfl
 ·rw [AC2 _ (by omega)]; omega
 ·rw [AC2 _ (by omega)]; omega
theorem AlP {l:List UInt8} (h:l.length=20):BC (FW l)=l:=by
 unfold BC; rw [Awa h,if_pos rfl,AAc]
theorem Ew {s:List UInt8}:(BC s).length=20:=by
 unfold BC
 split
 ·rename_i h
  unfold FT at h
  rw [Bool.and_eq_true,decide_eq_true_eq] at h
  exact Uo (by omega)
 ·simp [zer]
theorem ADO:∀ n,n<256→hv (UInt8.ofNat n)<16→dig (hv (UInt8.ofNat n))=UInt8.ofNat n:=by decide +kernel
theorem Bpk {c:UInt8} (h:hv c<16):dig (hv c)=c:=by
 have:=ADO c.toNat c.toNat_lt
 rw [UInt8.ofNat_toNat] at this
 exact this h
theorem AzF:∀ {n:Nat} {s:List UInt8},s.length=2*n→(∀ c∈s,hv c<16)→FW (UM s)=s
 | 0,s,h,_=>by rw [List.length_eq_zero_iff.1 (by omega:s.length=0)]; rfl
 | n+1,[],h,_=>by simp at h
 | n+1,[a],h,_=>by simp at h; omega
 | n+1,a::b::s,h,ha=>by
  have h1:=ha a (by simp)
  have h2:=ha b (by simp)
  have ih:=AzF (n:=n) (s:=s) (by simp at h; omega) (fun c hc=>ha c (by simp [hc]))
  have e:FW (UInt8.ofNat (hv a*16+hv b)::UM s)=dig ((UInt8.ofNat (hv a*16+hv b)).toNat / 16)::dig ((UInt8.ofNat (hv a*16+hv b)).toNat % 16)::FW (UM s):=rfl
  rw [UM,e,ih,UInt8.toNat_ofNat']
  have e1:(hv a*16+hv b) % 2 ^ 8 / 16=hv a:=by omega
  have e2:(hv a*16+hv b) % 2 ^ 8 % 16=hv b:=by omega
  rw [e1,e2,Bpk h1,Bpk h2]
theorem AsX {s:List UInt8} (h:FT s=true):FW (BC s)=s:=by
 unfold BC
 rw [if_pos h]
 unfold FT at h
 simp only [Bool.and_eq_true,decide_eq_true_eq,List.all_eq_true] at h
 exact AzF (n:=20) (by omega) h.2
theorem XU (l:List UInt8):10∉FW l:=by
 intro h
 obtain ⟨x,_,hc⟩:=List.mem_flatMap.1 h
 have hx:=x.toNat_lt
 have key:∀ n,n<16→(10:UInt8)≠dig n:=by decide
 simp only [List.mem_cons,List.not_mem_nil,or_false] at hc
 rcases hc with hc | hc
 ·exact key _ (by omega) hc
 ·exact key _ (by omega) hc
theorem AsP {k:Int} {n:List UInt8} (h:EK k=some n):10∉n:=by
 rw [EX] at h
 rcases h with ⟨_,rfl⟩ | ⟨_,rfl⟩ | ⟨_,rfl⟩ | ⟨_,rfl⟩<;>decide
theorem AzL {k j:Int} {n:List UInt8} (h:EK k=some n) (h':EK j=some n):k=j:=by
 rw [EX] at h h'
 rcases h with ⟨rfl,rfl⟩ | ⟨rfl,rfl⟩ | ⟨rfl,rfl⟩ | ⟨rfl,rfl⟩<;>rcases h' with ⟨rfl,h⟩ | ⟨rfl,h⟩ | ⟨rfl,h⟩ | ⟨rfl,h⟩<;>first | rfl | cases h
theorem Ass {s:List UInt8} (h:Wx s=true):10∉s:=by
 unfold Wx at h
 rw [Bool.and_eq_true,List.all_eq_true] at h
 exact fun hm=>absurd (h.2 _ hm) (by decide)
theorem AuF {p q:Per} (hp:EW p) (hq:EW q) (h:I8 p=I8 q):p=q:=by
 obtain ⟨a1,a2,a3,a4⟩:=Ayj hp
 obtain ⟨b1,b2,b3,b4⟩:=Ayj hq
 rw [h,b1] at a1
 simp only [Prod.mk.injEq,and_true] at a1
 obtain ⟨e1,e2⟩:=a1
 rw [←e2,b2] at a2
 simp only [Prod.mk.injEq,and_true] at a2
 obtain ⟨e3,e4⟩:=a2
 rw [←e4,b3] at a3
 simp only [Prod.mk.injEq,and_true] at a3
 obtain ⟨e5,e6⟩:=a3
 rw [←e5,b4] at a4
 have e7:=Option.some.inj a4
 unfold LH at e6
 obtain ⟨e8,e9⟩:=List.cons.inj e6
 obtain ⟨_,_,p1,p2,p3,p4⟩:=hp
 obtain ⟨_,_,q1,q2,q3,q4⟩:=hq
 have z1:=Ax4 (show p.zone.natAbs≤840 by omega)
 have z2:=Ax4 (show q.zone.natAbs≤840 by omega)
 rw [←e9,z2] at z1
 have z3:=Option.some.inj z1
 have z4:q.zone.natAbs=p.zone.natAbs:=by
  have y1:=Au4 (z:=p.zone.natAbs)
  have y2:=Au4 (z:=q.zone.natAbs)
  rw [←z3] at y1
  omega
 obtain ⟨pn,pm,pt,pz⟩:=p
 obtain ⟨qn,qm,qt,qz⟩:=q
 simp only at *
 have hz:pz=qz:=by
  unfold Aqw at e8
  split at e8<;>split at e8<;>first | omega | cases e8
 have ht:pt=qt:=by omega
 rw [e1,e3,hz,ht]
theorem Aw4 {r:List UInt8}:Lib.hasPrefix r [10]=true→r=10::Lib.trimPrefix r [10]:=by
 intro h
 unfold Lib.trimPrefix
 rw [if_pos h]
 unfold Lib.hasPrefix at h
 rw [List.isPrefixOf_iff_prefix] at h
 obtain ⟨t,rfl⟩:=h
 rfl
theorem Ayw {m:List UInt8}:Lib.hasPrefix (10::m) [10]=true∧Lib.trimPrefix (10::m) [10]=m:=by
 have h:Lib.hasPrefix (10::m) [10]=true:=by simp [Lib.hasPrefix,List.isPrefixOf]
 exact ⟨h,by unfold Lib.trimPrefix; rw [if_pos h]; rfl⟩
def ACi:Bl7:=⟨zer 20,0,[],⟨[],[],0,0⟩,[]⟩
def Bp3 (b:List UInt8) (r:TV):Prop:=(∀ t,ACZ t→tgB t=b→r = .tup [tgT t,.val .nilIface])∧((∀ t,ACZ t→tgB t≠b)→r = .tup [tgT ACi,eno 23])
theorem Bqg {s:List UInt8} {k0:Int} {kb ok:Bool} {q:Per} (hkb1:kb=true→EK k0=some (tv2 s)) (hkb2:kb=false→∀ k,EK k≠some (tv2 s)) (hq1:ok=true→EW q∧I8 q=tv4 s) (hq2:ok=false→∀ p,EW p→I8 p≠tv4 s) :
  ((ADv s || !FT (tv1 s) || !ok || !Lib.hasPrefix (tr4 s) [10] || !Wq (Lib.trimPrefix (tr4 s) [10]))=true∨kb=false∨Wx (tv3 s)=false→Bp3 s (.tup [tgT ACi,eno 23])) ∧
  ((ADv s || !FT (tv1 s) || !ok || !Lib.hasPrefix (tr4 s) [10] || !Wq (Lib.trimPrefix (tr4 s) [10]))=false∧kb=true∧Wx (tv3 s)=true→Bp3 s (.tup [tgT ⟨BC (tv1 s),k0,tv3 s,q,Lib.trimPrefix (tr4 s) [10]⟩,.val .nilIface])):=by
 have fwd:∀ t,ACZ t→tgB t=s→ADv s=false∧FT (tv1 s)=true∧ok=true∧Lib.hasPrefix (tr4 s) [10]=true∧Wq (Lib.trimPrefix (tr4 s) [10])=true∧kb=true∧Wx (tv3 s)=true
   ∧ t=⟨BC (tv1 s),k0,tv3 s,q,Lib.trimPrefix (tr4 s) [10]⟩:=by
  rintro ⟨id,k,n,p,m⟩ ⟨h20,hk,hp,hn,hm⟩ rfl
  unfold tgB at *
  simp only at *
  cases hkk:EK k with
  | none=>exact absurd hkk hk
  | some kn =>
   have hgd:(EK k).getD []=kn:=by rw [hkk]; rfl
   rw [hgd] at hkb1 hkb2 hq1 hq2
   simp only [Option.getD_some]
   obtain ⟨c1,c2,c3,c4,c5,c6⟩:=Bj8 (m:=m) (XU id) (AsP hkk) (Ass hn) (Ago hp)
   rw [c1,c2,c4,c6]
   rw [c3] at hkb1 hkb2
   rw [c5] at hq1 hq2
   obtain ⟨g1,g2⟩:=Ayw (m:=m)
   have hkt:kb=true:=by
    cases kb with
    | true=>rfl
    | false=>exact absurd hkk (hkb2 rfl k)
   have hot:ok=true:=by
    cases ok with
    | true=>rfl
    | false=>exact absurd rfl (hq2 rfl p hp)
   refine ⟨rfl,Awa h20,hot,g1,by rw [g2]; exact hm,hkt,hn,?_⟩
   rw [AlP h20,g2,AzL hkk (hkb1 hkt),AuF hp (hq1 hot).1 (hq1 hot).2.symm]
 constructor
 ·intro h
  refine ⟨fun t ht e => ?_,fun _=>rfl⟩
  exfalso
  obtain ⟨f1,f2,f3,f4,f5,f6,f7,_⟩:=fwd t ht e
  rw [f1,f2,f3,f4,f5,f6,f7] at h
  simp at h
 ·rintro ⟨h1,h2,h3⟩
  refine ⟨fun t ht e => ?_,fun h => ?_⟩
  ·obtain ⟨_,_,_,_,_,_,_,f8⟩:=fwd t ht e
   rw [f8]
  ·exfalso
   simp only [Bool.or_eq_false_iff,Bool.not_eq_false'] at h1
   obtain ⟨⟨⟨⟨g1,g2⟩,g3⟩,g4⟩,g5⟩:=h1
   have hkn:=hkb1 h2
   refine h ⟨BC (tv1 s),k0,tv3 s,q,Lib.trimPrefix (tr4 s) [10]⟩ ⟨Ew,by rw [hkn]; simp,(hq1 g3).1,h3,g5⟩ ?_
   unfold tgB
   simp only
   rw [hkn,AsX g2,(hq1 g3).2]
   exact (BpA g1 (Aw4 g4)).symm
end
section
open Go.RowKit
variable [Cc]
structure Bk7 where
 tree:List UInt8
 pars:List (List UInt8)
 author:Per
 comm:Per
 msg:List UInt8
def Ea:List UInt8:=[116,114,101,101]
def Et:List UInt8:=[112,97,114,101,110,116]
def Cf:List UInt8:=[97,117,116,104,111,114]
def BM:List UInt8:=[99,111,109,109,105,116,116,101,114]
abbrev Lp (l:List UInt8):TV := .arr 20 1 (l.map by8)
abbrev cmT (c:Bk7):TV := .agg [Lp c.tree,.sl 20 (c.pars.map Lp),OL c.author,OL c.comm,ts c.msg]
def Awj (c:Bk7):Prop:=c.tree.length=20∧(∀ x∈c.pars,x.length=20)∧c.pars.length≤8∧c.pars.Nodup∧EW c.author∧EW c.comm∧Wq c.msg=true
def LJ:List (List UInt8)→List UInt8
 | []=>[]
 | v::l=>Et++32::(v++10::LJ l)
def Vp (a d m:List UInt8):List UInt8:=Cf++32::(a++10::(BM++32::(d++10::(10::m))))
def BuO (x:List UInt8) (ps:List (List UInt8)) (a d m:List UInt8):List UInt8:=Ea++32::(x++10::(LJ ps++Vp a d m))
def cmB (c:Bk7):List UInt8:=BuO (FW c.tree) (c.pars.map FW) (I8 c.author) (I8 c.comm) c.msg
theorem AlY {v:List UInt8}:∀ {l:List (List UInt8)} {r:List UInt8},LJ (l++[v])++r=LJ l++(Et++32::(v++10::r))
 | [],r=>by simp [LJ]
 | x::l,r=>by
  have:=AlY (v:=v) (l:=l) (r:=r)
  simp only [List.cons_append,LJ,List.append_assoc] at this ⊢
  rw [this]
theorem AzC (l:List (List UInt8)):l.length≤(LJ l).length:=by
 induction l with
 | nil=>simp [LJ]
 | cons a l ih=>simp [LJ]; omega
theorem BrS {w s:List UInt8} (h:mb w s=true):Aqe w s=none:=by
 unfold mb at h; simpa using h
theorem Azc:∀ {l m:List (List UInt8)} {r q:List UInt8},(∀ x∈l,10∉x)→(∀ x∈m,10∉x)→mb Et r=true→mb Et q=true→LJ l++r=LJ m++q→l=m∧r=q
 | [],[],r,q,_,_,_,_,e=>⟨rfl,e⟩
 | [],v::m,r,q,_,hm,hr,_,e=>by
  exfalso
  simp only [LJ,List.nil_append,List.append_assoc,List.cons_append] at e
  have:=(LY (w:=Et) (v:=v) (r:=LJ m++q) (by decide) (hm v (by simp))).1
  rw [←e,hr] at this; cases this
 | v::l,[],r,q,hl,_,_,hq,e=>by
  exfalso
  simp only [LJ,List.nil_append,List.append_assoc,List.cons_append] at e
  have:=(LY (w:=Et) (v:=v) (r:=LJ l++r) (by decide) (hl v (by simp))).1
  rw [e,hq] at this; cases this
 | u::l,v::m,r,q,hl,hm,hr,hq,e=>by
  simp only [LJ,List.append_assoc,List.cons_append] at e
  obtain ⟨_,a1,a2⟩:=LY (w:=Et) (v:=u) (r:=LJ l++r) (by decide) (hl u (by simp))
  obtain ⟨_,b1,b2⟩:=LY (w:=Et) (v:=v) (r:=LJ m++q) (by decide) (hm v (by simp))
  rw [e] at a1 a2
  obtain ⟨h1,h2⟩:=Azc (fun x hx=>hl x (by simp [hx])) (fun x hx=>hm x (by simp [hx])) hr hq (a2.symm.trans b2)
  exact ⟨by rw [←a1,b1,h1],h2⟩
theorem ACK {a d m:List UInt8}:mb Et (Vp a d m)=true:=by
 cases h:mb Et (Vp a d m) with
 | true=>rfl
 | false =>
  have:=(Pj h).1
  unfold Vp Cf Et at this
  simp at this
structure Bpr (s x:List UInt8) (ps:List (List UInt8)) (t:List UInt8):Prop where
 head:s=Ea++32::(x++10::(LJ ps++t))
 nx:10∉x
 nps:∀ p∈ps,10∉p
 stop:mb Et t=true
theorem Bpr.one {s x x' t t':List UInt8} {ps ps':List (List UInt8)} (h:Bpr s x ps t) (h':Bpr s x' ps' t'):x=x'∧ps=ps'∧t=t':=by
 obtain ⟨_,a1,a2⟩:=LY (w:=Ea) (v:=x) (r:=LJ ps++t) (by decide) h.nx
 obtain ⟨_,b1,b2⟩:=LY (w:=Ea) (v:=x') (r:=LJ ps'++t') (by decide) h'.nx
 rw [←h.head] at a1 a2
 rw [←h'.head] at b1 b2
 obtain ⟨h1,h2⟩:=Azc h.nps h'.nps h.stop h'.stop (a2.symm.trans b2)
 exact ⟨a1.symm.trans b1,h1,h2⟩
theorem ACB {c:Bk7}:Bpr (cmB c) (FW c.tree) (c.pars.map FW) (Vp (I8 c.author) (I8 c.comm) c.msg) :=
 ⟨rfl,XU _,fun p hp=>by obtain ⟨q,_,rfl⟩:=List.mem_map.1 hp; exact XU q,ACK⟩
theorem Bpy {a d m:List UInt8} (ha:10∉a) (hd:10∉d):mb Cf (Vp a d m)=false∧mv Cf (Vp a d m)=a∧mb BM (mr Cf (Vp a d m))=false∧mv BM (mr Cf (Vp a d m))=d∧mr BM (mr Cf (Vp a d m))=10::m:=by
 obtain ⟨a1,b1,c1⟩:=LY (w:=Cf) (v:=a) (r:=BM++32::(d++10::(10::m))) (by decide) ha
 obtain ⟨a2,b2,c2⟩:=LY (w:=BM) (v:=d) (r:=10::m) (by decide) hd
 unfold Vp
 rw [c1]
 exact ⟨a1,b1,a2,b2,c2⟩
theorem BuJ {t m:List UInt8} (h1:mb Cf t=false) (h2:mb BM (mr Cf t)=false) (h3:mr BM (mr Cf t)=10::m):t=Vp (mv Cf t) (mv BM (mr Cf t)) m:=by
 unfold Vp
 rw [←h3,←(Pj h2).1]
 exact (Pj h1).1
theorem Anv:∀ {l:List (List UInt8)},(∀ x∈l,FT x=true)→(l.map BC).map FW=l
 | [],_=>rfl
 | x::l,h=>by
  simp only [List.map_cons]
  rw [AsX (h x (by simp)),Anv fun y hy=>h y (by simp [hy])]
theorem Am2:∀ {l:List (List UInt8)},(∀ x∈l,x.length=20)→(l.map FW).map BC=l
 | [],_=>rfl
 | x::l,h=>by
  simp only [List.map_cons]
  rw [AlP (h x (by simp)),Am2 fun y hy=>h y (by simp [hy])]
abbrev Boi:TV := .agg [Lp (zer 20),.val (.slice none 0 0),OL ⟨[],[],0,0⟩,OL ⟨[],[],0,0⟩,ts []]
def BuQ (b:List UInt8) (r:TV):Prop:=(∀ c,Awj c→cmB c=b→r = .tup [cmT c,.val .nilIface])∧((∀ c,Awj c→cmB c≠b)→r = .tup [Boi,eno 22])
def AgO (s x:List UInt8) (ps:List (List UInt8)) (t:List UInt8) (ok1 ok2:Bool) (nd:Bool):Bool :=
 !mb Ea s && FT x && ps.all FT && !mb Cf t && ok1 && !mb BM (mr Cf t) && ok2 && Lib.hasPrefix (mr BM (mr Cf t)) [10] && Wq (Lib.trimPrefix (mr BM (mr Cf t)) [10]) && decide (ps.length≤8) && nd
theorem Bjt {s x t:List UInt8} {ps:List (List UInt8)} {ok1 ok2 nd:Bool} {q1 q2:Per} (hx:mb Ea s=false→Bpr s x ps t) (hnd:ps.all FT=true→(nd=true↔(ps.map BC).Nodup))
  (h1:ok1=true→EW q1∧I8 q1=mv Cf t) (h1':ok1=false→∀ p,EW p→I8 p≠mv Cf t) (h2:ok2=true→EW q2∧I8 q2=mv BM (mr Cf t)) (h2':ok2=false→∀ p,EW p→I8 p≠mv BM (mr Cf t)) :
  (AgO s x ps t ok1 ok2 nd=false→∀ c,Awj c→cmB c≠s) ∧
  (AgO s x ps t ok1 ok2 nd=true→Awj ⟨BC x,ps.map BC,q1,q2,Lib.trimPrefix (mr BM (mr Cf t)) [10]⟩∧cmB ⟨BC x,ps.map BC,q1,q2,Lib.trimPrefix (mr BM (mr Cf t)) [10]⟩=s) ∧
  (∀ c,Awj c→cmB c=s→AgO s x ps t ok1 ok2 nd=true∧c=⟨BC x,ps.map BC,q1,q2,Lib.trimPrefix (mr BM (mr Cf t)) [10]⟩):=by
 have fwd:∀ c,Awj c→cmB c=s→AgO s x ps t ok1 ok2 nd=true∧c=⟨BC x,ps.map BC,q1,q2,Lib.trimPrefix (mr BM (mr Cf t)) [10]⟩:=by
  rintro c ⟨c1,c2,c3,c4,c5,c6,c7⟩ rfl
  have hb:mb Ea (cmB c)=false:=(LY (w:=Ea) (by decide) (XU c.tree)).1
  obtain ⟨rfl,rfl,rfl⟩:=(hx hb).one (ACB (c:=c))
  obtain ⟨e1,e2,e3,e4,e5⟩:=Bpy (m:=c.msg) (Ago c5) (Ago c6)
  obtain ⟨g1,g2⟩:=Ayw (m:=c.msg)
  have hall:(c.pars.map FW).all FT=true:=by
   rw [List.all_eq_true]
   intro y hy
   obtain ⟨z,hz,rfl⟩:=List.mem_map.1 hy
   exact Awa (c2 z hz)
  rw [e2] at h1 h1'
  rw [e4] at h2 h2'
  have ho1:ok1=true:=by
   cases ok1 with
   | true=>rfl
   | false=>exact absurd rfl (h1' rfl _ c5)
  have ho2:ok2=true:=by
   cases ok2 with
   | true=>rfl
   | false=>exact absurd rfl (h2' rfl _ c6)
  have hpp:=Am2 c2
  have hnd':nd=true:=(hnd hall).2 (by rw [hpp]; exact c4)
  constructor
  ·unfold AgO
   rw [hb,Awa c1,hall,e1,ho1,e3,ho2,e5,g1,g2,c7,hnd']
   simp [c3]
  ·rw [AlP c1,hpp,e5,g2,AuF (h1 ho1).1 c5 (h1 ho1).2,AuF (h2 ho2).1 c6 (h2 ho2).2]
 refine ⟨fun h c hc e => ?_,fun h => ?_,fwd⟩
 ·rw [(fwd c hc e).1] at h; cases h
 ·unfold AgO at h
  simp only [Bool.and_eq_true,Bool.not_eq_true',decide_eq_true_eq] at h
  obtain ⟨⟨⟨⟨⟨⟨⟨⟨⟨⟨g1,g2⟩,g3⟩,g4⟩,g5⟩,g6⟩,g7⟩,g8⟩,g9⟩,g10⟩,g11⟩:=h
  have hR:=hx g1
  refine ⟨⟨Ew,fun y hy => ?_,by simpa using g10,(hnd g3).1 g11,(h1 g5).1,(h2 g7).1,g9⟩,?_⟩
  ·obtain ⟨z,_,rfl⟩:=List.mem_map.1 hy; exact Ew
  ·unfold cmB BuO
   simp only
   rw [AsX g2,Anv (fun y hy=>List.all_eq_true.1 g3 y hy),(h1 g5).2,(h2 g7).2,←BuJ g4 g6 (Aw4 g8)]
   exact hR.head.symm
end
section
open Go.RowKit
variable [Cc]
theorem Brc {k l:List UInt8} {x:TV}:∀ {es:List (List UInt8×TV)},AjB k (AiA l x es)=if l=k then some x else AjB k es
 | []=>by simp [AiA,AjB]
 | (q,y)::es=>by
  rw [AiA]
  by_cases hq:q=l
  ·subst hq
   rw [if_pos rfl,AjB,AjB]
   by_cases h:q=k<;>simp [h]
  ·rw [if_neg hq,AjB,AjB,Brc]
   by_cases h:q=k
   ·subst h; rw [if_pos rfl,if_neg (fun e=>hq e.symm),if_pos rfl]
   ·rw [if_neg h,if_neg h]
theorem BjE {k:List UInt8} {x:TV}:∀ {es:List (List UInt8×TV)},(AiA k x es)[Ar5 k es]?=some (k,x)
 | []=>by simp [AiA,Ar5]
 | (q,y)::es=>by
  rw [AiA,Ar5]
  by_cases hq:q=k
  ·subst hq; simp
  ·rw [if_neg hq,if_neg hq,List.getElem?_cons_succ,BjE]
theorem ACI {k:List UInt8} {x y:TV}:∀ {es:List (List UInt8×TV)},(AiA k x es).set (Ar5 k es) (k,y)=AiA k y es
 | []=>by simp [AiA,Ar5]
 | (q,z)::es=>by
  rw [AiA,Ar5]
  by_cases hq:q=k
  ·subst hq; simp [AiA]
  ·rw [if_neg hq,if_neg hq,List.set_cons_succ,ACI,AiA,if_neg hq]
theorem Avr {k:List UInt8} {x:TV} {es:List (List UInt8×TV)}:AjB k (AiA k x es)=some x:=by rw [Brc,if_pos rfl]
def Cnt (es:List (List UInt8×TV)) (m:List (List UInt8)):Prop:=∀ l,(AjB l es).getD (i64 ((0:Nat):Int))=i64 ((m.count l:Nat):Int)
theorem Cnt.add {es:List (List UInt8×TV)} {m:List (List UInt8)} (h:Cnt es m) (l:List UInt8):Cnt (AiA l (i64 ((m.count l+1:Nat):Int)) es) (m++[l]):=by
 intro k
 rw [Brc]
 by_cases hk:l=k
 ·subst hk; simp
 ·rw [if_neg hk,h k]; simp [hk]
theorem Axm {l:List (List UInt8)} {i:Nat} (hi:i<l.length) (h:(l.take i).Nodup):(l.take (i+1)).Nodup↔l[i]∉l.take i:=by
 rw [List.take_succ_eq_append_getElem hi,List.nodup_append]
 constructor
 ·rintro ⟨_,_,g⟩ hm
  exact g _ hm _ (by simp) rfl
 ·intro g
  exact ⟨h,by simp,fun a ha b hb=>by rw [List.mem_singleton] at hb; subst hb; exact fun e=>g (e▸ha)⟩
theorem BvG (l:List (List UInt8)) (h20:∀ x∈l,x.length=20) (hl:l.length≤1000000):CE Tryz.prog 42 [.sl 20 (l.map Lp)] (fun r=>r=tb (!decide l.Nodup)):=by
 refine BD.toPureV (AvI (by simp) ?_)
 simp -dsimp (disch:=first | assumption | omega | (simp only [Aa];try omega)) only [↓AB,Aj,AA,Az,eq_self,Nat.reduceEqDiff,↓reduceIte,reduceCtorEq,↓Auf,↓ApL,↓Aqh,↓Ao9]
 refine FU (fun q e H=>∃ (i:Nat) (es:List (List UInt8×TV)),q=l.length - i∧i≤l.length∧(l.take i).Nodup∧Cnt es (l.take i)∧H[0]?=some (.mpo (.arr 20) es)∧e=[(3,.mp 0 0),(7,.sl 20 (l.map Lp)),(8,i64 (l.length:Int)),(9,i64 (i:Int))]) l.length ?_ ?_
 ·exact ⟨0,[],by simp,by simp,by simp,fun l=>by simp [AjB],rfl,rfl⟩
 ·rintro q e H ⟨i,es,rfl,hi,hnd,hc,hH,rfl⟩
  have hHl:0<H.length:=(List.getElem?_eq_some_iff.1 hH).1
  have hA:∀ T:List Ob,(H++T)[0]?=some (.mpo (.arr 20) es):=fun T=>by rw [List.getElem?_append_left hHl]; exact hH
  by_cases hil:i<l.length
  ·have hg:l[i]?=some l[i]:=List.getElem?_eq_getElem hil
   have hx20:=h20 _ (List.mem_of_getElem? hg)
   have hcl:=hc l[i]
   have hadd:=hc.add l[i]
   have hcount:(l.take i).count l[i]≤i:=by have:=List.count_le_length (a:=l[i]) (l:=l.take i); rw [List.length_take] at this; omega
   have hnx:=Axm hil hnd
   rw [←List.count_eq_zero] at hnx
   have hts:=List.take_succ_eq_append_getElem hil
   rw [←hts] at hadd
   have hpre:l.Nodup→(l.take (i+1)).Nodup:=fun h=>h.sublist (List.take_sublist _ _)
   generalize l[i]=x at *
   generalize (l.take i).count x=n at *
   simp -dsimp (disch:=first | assumption | omega | (simp only [Aa];try omega)) only [↓AB,Aj,AA,Az,eq_self,Nat.reduceEqDiff,↓reduceIte,↓Y7,↓Zn,↓Aoe,hg,hA,hcl,BjE,ACI,Avr]
   have hS0:∀ (o:Ob) (T:List Ob),(H.set 0 o++T)[0]?=some o:=fun o T=>by rw [List.getElem?_append_left (by simpa using hHl),List.getElem?_set_self hHl]
   by_cases hn:n=0
   ·subst hn
    simp -dsimp (disch:=first | assumption | omega | (simp only [Aa];try omega)) only [↓AB,Aj,AA,Az,eq_self,Nat.reduceLT,Nat.reduceEqDiff,↓reduceIte]
    exact BQ (l.length - (i+1)) (by omega) (by simp) ⟨i+1,_,rfl,by omega,hnx.2 rfl,hadd,hS0 _ _,rfl⟩
   ·simp -dsimp (disch:=first | assumption | omega | (simp only [Aa];try omega)) only [↓AB,Aj,AA,Az,eq_self,↓reduceIte,↓Ait]
    have:¬ l.Nodup:=fun h=>hn (hnx.1 (hpre h))
    simp [this]
  ·have hi2:i=l.length:=by omega
   rw [hi2,List.take_length] at hnd
   simp -dsimp (disch:=first | assumption | omega | (simp only [Aa];try omega)) only [↓AB,Aj,AA,Az,eq_self,Nat.reduceEqDiff,↓reduceIte,↓Y7,↓Zn,↓Aow,↓Ait]
   simp [hnd]
end
section
open Go.RowKit
variable [Cc]
abbrev enT (e:En):TV := .agg [i64 e.mode,ts e.name,Lp e.id]
theorem Brp (m:Int):CE Tryz.prog 80 [i64 m] (fun r=>r=tb (Aai m)):=by
 refine BD.toPureV (At3 (by simp) ?_)
 by_cases h1:m=16384
 ·subst h1
  simp -dsimp (disch:=first | assumption | omega | (simp only [Aa];try omega)) only [↓AB,Aj,AA,Az,eq_self,Nat.reduceEqDiff,↓reduceIte,reduceCtorEq,↓KZ,↓G8,↓KU]
  rfl
 by_cases h2:m=33188
 ·subst h2
  simp -dsimp (disch:=first | assumption | omega | (simp only [Aa];try omega)) only [↓AB,Aj,AA,Az,eq_self,Nat.reduceEqDiff,↓reduceIte,reduceCtorEq,↓KZ,↓G8,↓KU]
  rfl
 by_cases h3:m=33261
 ·subst h3
  simp -dsimp (disch:=first | assumption | omega | (simp only [Aa];try omega)) only [↓AB,Aj,AA,Az,eq_self,Nat.reduceEqDiff,↓reduceIte,reduceCtorEq,↓KZ,↓G8,↓KU]
  rfl
 by_cases h4:m=40960
 ·subst h4
  simp -dsimp (disch:=first | assumption | omega | (simp only [Aa];try omega)) only [↓AB,Aj,AA,Az,eq_self,Nat.reduceEqDiff,↓reduceIte,reduceCtorEq,↓KZ,↓G8,↓KU]
  rfl
 ·have e1:¬ m=((16384:Nat):Int):=h1
  have e2:¬ m=((33188:Nat):Int):=h2
  have e3:¬ m=((33261:Nat):Int):=h3
  have e4:¬ m=((40960:Nat):Int):=h4
  simp -dsimp (disch:=first | assumption | omega | (simp only [Aa];try omega)) only [↓AB,Aj,AA,Az,eq_self,Nat.reduceEqDiff,↓reduceIte,reduceCtorEq,↓KZ,↓G8,↓KU,e1,e2,e3,e4]
  simp [Aai,h1,h2,h3,h4]
def Arx (l:List En):Bool:=decide (l.length≤2000) && l.all (fun e=>Aai e.mode && WW e.name) && decide (l.map (·.name)).Nodup
theorem ADc {l:List En} (h20:∀ e∈l,e.id.length=20):Arx l=true↔Ac5 l:=by
 unfold Arx Ac5 AzA
 simp only [Bool.and_eq_true,decide_eq_true_eq,List.all_eq_true]
 constructor
 ·rintro ⟨⟨a,b⟩,c⟩
  exact ⟨a,fun e he=>⟨(b e he).1,(b e he).2,h20 e he⟩,c⟩
 ·rintro ⟨a,b,c⟩
  exact ⟨⟨a,fun e he=>⟨(b e he).1,(b e he).2.1⟩⟩,c⟩
theorem Btb (l:List En) (h20:∀ e∈l,e.id.length=20) (hn:∀ e∈l,e.name.length≤9223372036854775807) (hl:l.length≤1000000):CE Tryz.prog 45 [.sl 22 (l.map enT)] (fun r=>r=tb (Arx l)):=by
 refine BD.toPureV (Avb (by simp) ?_)
 simp -dsimp (disch:=first | assumption | omega | (simp only [Aa];try omega)) only [↓AB,Aj,AA,Az,eq_self,Nat.reduceEqDiff,↓reduceIte,reduceCtorEq,↓At5,↓Ap2,↓Apg,↓ApY]
 refine FU (fun q e H=>∃ (i:Nat) (es:List (List UInt8×TV)),q=l.length - i∧i≤l.length∧(∀ e∈l.take i,(Aai e.mode && WW e.name)=true)∧((l.take i).map (·.name)).Nodup∧Cnt es ((l.take i).map (·.name))∧H[0]?=some (.mpo .str es) ∧
  e=[(0,.sl 22 (l.map enT)),(3,.mp 0 0),(9,.sl 22 (l.map enT)),(10,i64 (l.length:Int)),(11,i64 (i:Int))]) l.length ?_ ?_
 ·exact ⟨0,[],by simp,by simp,by simp,by simp,fun l=>by simp [AjB],rfl,rfl⟩
 ·rintro q e H ⟨i,es,rfl,hi,hall,hnd,hc,hH,rfl⟩
  have hHl:0<H.length:=(List.getElem?_eq_some_iff.1 hH).1
  have hA:∀ T:List Ob,(H++T)[0]?=some (.mpo .str es):=fun T=>by rw [List.getElem?_append_left hHl]; exact hH
  by_cases hil:i<l.length
  ·have hg:l[i]?=some l[i]:=List.getElem?_eq_getElem hil
   have hm:=List.mem_of_getElem? hg
   have hx20:(l[i].id.map by8).length=20:=by rw [List.length_map]; exact h20 _ hm
   have hxn:=hn _ hm
   have hcl:=hc l[i].name
   have hadd:=hc.add l[i].name
   have hcount:((l.take i).map (·.name)).count l[i].name≤i:=by have:=List.count_le_length (a:=l[i].name) (l:=(l.take i).map (·.name)); rw [List.length_map,List.length_take] at this; omega
   have hts:=List.take_succ_eq_append_getElem hil
   have htm:(l.take (i+1)).map (·.name)=(l.take i).map (·.name)++[l[i].name]:=by rw [hts,List.map_append]; rfl
   have hnx:((l.take (i+1)).map (·.name)).Nodup↔l[i].name∉(l.take i).map (·.name):=by
    rw [htm,List.nodup_append]
    exact ⟨fun ⟨_,_,g⟩ hm=>g _ hm _ (by simp) rfl,fun g=>⟨hnd,by simp,fun a ha b hb=>by rw [List.mem_singleton] at hb; subst hb; exact fun e=>g (e▸ha)⟩⟩
   rw [←List.count_eq_zero] at hnx
   rw [←htm] at hadd
   have hpre:Arx l=true→((l.take (i+1)).map (·.name)).Nodup∧(Aai l[i].mode && WW l[i].name)=true:=fun h=>by
    unfold Arx at h
    simp only [Bool.and_eq_true,decide_eq_true_eq,List.all_eq_true] at h
    exact ⟨h.2.sublist ((List.take_sublist _ _).map _),by simpa using h.1.2 _ hm⟩
   have hall':(Aai l[i].mode && WW l[i].name)=true→∀ e∈l.take (i+1),(Aai e.mode && WW e.name)=true:=fun h e he=>by
    rw [hts] at he
    rcases List.mem_append.1 he with he | he
    ·exact hall e he
    ·rw [List.mem_singleton] at he; subst he; exact h
   have hmo:=Brp l[i].mode
   have hna:=BpX l[i].name hxn
   have no:¬ Arx l=true→tb false=tb (Arx l):=fun h=>by rw [Bool.not_eq_true] at h; rw [h]
   generalize l[i]=x at *
   generalize ((l.take i).map (·.name)).count x.name=n at *
   have hS0:∀ (o:Ob) (T:List Ob),(H.set 0 o++T)[0]?=some o:=fun o T=>by rw [List.getElem?_append_left (by simpa using hHl),List.getElem?_set_self hHl]
   simp -dsimp (disch:=first | assumption | omega | (simp only [Aa];try omega)) only [↓AB,Aj,AA,Az,eq_self,Nat.reduceEqDiff,↓reduceIte,Nat.reduceAdd,reduceCtorEq,↓Yv,↓Zr,↓Aqg,↓Ao5,hg,hA,hcl]
   have g0:=hS0 (.mpo .str (AiA x.name (.val (.int .i64 ((n+1:Nat):Int))) es)) [.obj 0 (enT x)]
   have gN:(H.set 0 (.mpo .str (AiA x.name (.val (.int .i64 ((n+1:Nat):Int))) es))++[Ob.obj 0 (enT x)])[H.length]?=some (.obj 0 (enT x)):=by rw [List.getElem?_append_right (by simp),List.length_set,Nat.sub_self]; rfl
   have gl:1≤(H.set 0 (.mpo .str (AiA x.name (.val (.int .i64 ((n+1:Nat):Int))) es))++[Ob.obj 0 (enT x)]).length:=by simp
   generalize H.set 0 (.mpo .str (AiA x.name (.val (.int .i64 ((n+1:Nat):Int))) es))++[Ob.obj 0 (enT x)]=H1 at *
   simp -dsimp (disch:=first | assumption | omega | (simp only [Aa];try omega)) only [↓AB,Aj,AA,Az,eq_self,Nat.reduceEqDiff,↓reduceIte,reduceCtorEq,gN,↓Aod]
   refine hmo.calls rfl fun r hr => ?_
   subst hr
   cases hm1:Aai x.mode with
   | false =>
    simp -dsimp (disch:=first | assumption | omega | (simp only [Aa];try omega)) only [↓AB,Aj,AA,Az,eq_self,Nat.reduceEqDiff,↓reduceIte,reduceCtorEq,↓Om]
    exact no fun h=>by have:=(hpre h).2; rw [hm1] at this; cases this
   | true =>
    simp -dsimp (disch:=first | assumption | omega | (simp only [Aa];try omega)) only [↓AB,Aj,AA,Az,eq_self,Nat.reduceEqDiff,↓reduceIte,Nat.reduceAdd,reduceCtorEq,gN]
    refine hna.calls rfl fun r hr => ?_
    subst hr
    cases hm2:WW x.name with
    | false =>
     simp -dsimp (disch:=first | assumption | omega | (simp only [Aa];try omega)) only [↓AB,Aj,AA,Az,eq_self,Nat.reduceEqDiff,↓reduceIte,reduceCtorEq,↓Om]
     exact no fun h=>by have:=(hpre h).2; rw [hm1,hm2] at this; cases this
    | true =>
     by_cases hn0:n=0
     ·subst hn0
      simp -dsimp (disch:=first | assumption | omega | (simp only [Aa];try omega)) only [↓AB,Aj,AA,Az,eq_self,Nat.reduceLT,Nat.reduceEqDiff,↓reduceIte,Nat.reduceAdd,reduceCtorEq,gN,g0,Avr]
      exact BQ (l.length - (i+1)) (by omega) gl ⟨i+1,_,rfl,by omega,hall' (by rw [hm1,hm2]; rfl),hnx.2 rfl,hadd,g0,rfl⟩
     ·simp -dsimp (disch:=first | assumption | omega | (simp only [Aa];try omega)) only [↓AB,Aj,AA,Az,eq_self,Nat.reduceEqDiff,↓reduceIte,Nat.reduceAdd,reduceCtorEq,gN,g0,Avr,↓Om]
      exact no fun h=>hn0 (hnx.1 (hpre h).1)
  ·have hi2:i=l.length:=by omega
   rw [hi2,List.take_length] at hnd hall
   simp -dsimp (disch:=first | assumption | omega | (simp only [Aa];try omega)) only [↓AB,Aj,AA,Az,eq_self,Nat.reduceEqDiff,↓reduceIte,reduceCtorEq,↓Yv,↓Zr,↓Aos,↓Om]
   unfold Arx
   rw [decide_eq_true hnd,List.all_eq_true.2 hall]
   simp
end
end Go.Proofs.YtliaddbbmnfioaaGreatDoor
namespace Go.Proofs
open Go.Shelf
end Go.Proofs
namespace Go.Proofs.YtliaddbbmnfioaaGreatDoor
section
open Go.RowKit Go.Sort
variable [Cc]
instance:Inhabited EnS:=⟨⟨⟨0,[],List.replicate 20 0⟩,by simp⟩⟩
theorem Btx (c:Ctx) (w:World) (x:EnS) (us:List Value):Bc c w (enT x.1) us↔us=AoW x.1:=by
 unfold AoW
 constructor
 ·intro h
  rw [Bc,Be] at h
  obtain ⟨a,b,rfl,h1,h⟩:=h
  rw [Be] at h
  obtain ⟨a2,b2,rfl,h2,h⟩:=h
  rw [Be] at h
  obtain ⟨a3,b3,rfl,h3,h⟩:=h
  rw [Be] at h
  subst h
  rw [Bc] at h1; rw [Bc] at h2; rw [Bc] at h3
  obtain ⟨_,_,h3⟩:=h3
  have:=O4 (fun y hy=>by obtain ⟨b,_,rfl⟩:=List.mem_map.1 hy; exact AlU b) h3
  rw [AgL] at this
  rw [this,h1.1,h2.1]; simp
 ·intro e
  have q3:Bc c w (Lp x.1.id) (x.1.id.map fun b=>Value.int .u8 b.toNat):=by
   rw [Bc]
   exact ⟨by rw [List.length_map]; exact x.2.1,fun y hy=>by obtain ⟨b,_,rfl⟩:=List.mem_map.1 hy; rfl,Oq _⟩
  have q1:Bc c w (i64 x.1.mode) [.int .i64 x.1.mode]:=by rw [Bc]; exact ⟨rfl,rfl⟩
  have q2:Bc c w (ts x.1.name) [.string (str x.1.name)]:=by rw [Bc]; exact ⟨rfl,rfl⟩
  have q4:Be c w [Lp x.1.id] (x.1.id.map fun b=>Value.int .u8 b.toNat):=by rw [Be]; exact ⟨_,[],by simp,q3,by rw [Be]⟩
  have q5:Be c w [ts x.1.name,Lp x.1.id] (.string (str x.1.name)::x.1.id.map fun b=>Value.int .u8 b.toNat):=by rw [Be]; exact ⟨_,_,rfl,q2,q4⟩
  rw [Bc,Be]
  exact ⟨_,_,e,q1,q5⟩
theorem BuB (x y:En) (hx:x.id.length=20) (hy:y.id.length=20) (nx:x.name.length≤1000000000) (ny:y.name.length≤1000000000):CE Tryz.prog 48 [enT x,enT y] (fun r=>r=i64 (Lib.compareBytes (Yb x) (Yb y))):=by
 intro β F w vs hF hv
 obtain ⟨v,us,rfl,h1,hv⟩:=Ei.cons.1 hv
 obtain ⟨v2,us,rfl,h2,hv⟩:=Ei.cons.1 hv
 rw [Ei.nil] at hv; subst hv
 have c1:v = .agg (AoW x).toArray:=by
  rcases h1 with h | h | ⟨us,h,e⟩
  ·cases h
  ·cases h
  ·rw [e,(Btx _ _ ⟨x,hx,nx⟩ us).1 h]; rfl
 have c2:v2 = .agg (AoW y).toArray:=by
  rcases h2 with h | h | ⟨us,h,e⟩
  ·cases h
  ·cases h
  ·rw [e,(Btx _ _ ⟨y,hy,ny⟩ us).1 h]; rfl
 rw [c1,c2]
 refine (ABY ⟨x,hx,nx⟩ ⟨y,hy,ny⟩ w).mono ?_
 rintro e w' ⟨rfl,q,os',rfl⟩
 refine ⟨_,_,F,rfl,rfl,Rep.of_val,⟨rfl,rfl,rfl,?_,fun b hb => ?_,fun _ h=>h,fun _ _ h=>h,fun b hb => ?_⟩⟩
 ·show w.heap.size≤(w.heap++os').size
  simp
 ·show (w.heap++os')[b]?=w.heap[b]?
  rw [Array.getElem?_append,if_pos hb]
 ·show b<(w.heap++os').size
  have:=hF.1 b hb
  simp; omega
end
section
open Go.RowKit
variable [Cc]
variable {P:Program}
def ACk (P:Program) (f:FuncId) (args:List TV) (R:TV→Prop) (RP:Value→Prop):Prop :=
 ∀ (β:Nat→Nat→Option (Nat×Nat)) (F:Nat→Prop) (w:World) (vs:List Value),((∀ b,F b→b<w.heap.size)∧NL F w)→Ei ⟨β,[],F⟩ w args vs →
  Calls P f vs.toArray w fun e w'=>∃ F',Ags F w F' w'∧((∃ v x,e = .returned v∧R x∧Rep ⟨β,[],fun b=>F' b∧w.heap.size≤b⟩ w' x v)∨∃ u,e = .panicked [{ v:=u,recovered:=false }]∧RP u)
theorem ACk.mono {f:FuncId} {args:List TV} {R R':TV→Prop} {RP RP':Value→Prop} (h:ACk P f args R RP) (hr:∀ x,R x→R' x) (hp:∀ u,RP u→RP' u):ACk P f args R' RP' :=
 fun β F w vs hF hv=>(h β F w vs hF hv).mono fun _ _ ⟨F',h1,h2⟩=>⟨F',h1,h2.imp (fun ⟨v,x,k1,k2,k3⟩=>⟨v,x,k1,hr _ k2,k3⟩) fun ⟨u,k1,k2⟩=>⟨u,k1,hp _ k2⟩⟩
def AEv (x x':TV):Prop:=∀ (c:Ctx) (w:World) (v:Value),AEZ c w x v→AEZ c w x' v
inductive Ax0:List TV→List TV→Prop
 | nil:Ax0 [] []
 | cons {x x':TV} {xs xs':List TV}:AEv x x'→Ax0 xs xs'→Ax0 (x::xs) (x'::xs')
theorem AEv.refl {x:TV}:AEv x x:=fun _ _ _ h=>h
theorem Ax0.rep {c:Ctx} {w:World} {xs xs':List TV} (h:Ax0 xs xs'):∀ {vs:List Value},Ei c w xs vs→Ei c w xs' vs:=by
 induction h with
 | nil=>exact fun h=>h
 | cons h1 h2 ih =>
  intro vs hv
  rw [Ei.cons] at hv ⊢
  obtain ⟨u,us,rfl,k1,k2⟩:=hv
  exact ⟨u,us,rfl,h1 _ _ _ k1,ih k2⟩
theorem ADf {k:Nat}:AEv (.val (.slice none 0 0)) (.sl k []):=fun c w v h=>by
 have hv:v = .slice none 0 0:=by
  have h':Rep c w (.val (.slice none 0 0)) v := .inl h
  rw [Rep.val] at h'; exact h'
 subst hv
 refine .inr (.inr ⟨[.slice none 0 0],?_,rfl⟩)
 rw [Bc]
 exact ⟨by simp,.inl ⟨rfl,none,0,rfl,by omega⟩⟩
theorem CE.argL {f:FuncId} {args args':List TV} {R:TV→Prop} (h:CE P f args' R) (hc:Ax0 args args'):CE P f args R :=
 fun β F w vs hF hv=>h β F w vs hF (hc.rep hv)
theorem CE.conv {f:FuncId} {args:List TV} {R R':TV→Prop} (h:CE P f args R) (hc:∀ x,R x→∃ x',R' x'∧∀ c w v,Rep c w x v→Rep c w x' v):CE P f args R' :=
 fun β F w vs hF hv=>(h β F w vs hF hv).mono fun _ _ ⟨v,x,F',h1,h2,h3,h4⟩=>by
  obtain ⟨x',k1,k2⟩:=hc x h2
  exact ⟨v,x',F',h1,k1,k2 _ _ _ h3,h4⟩
theorem Ax0.tup {xs xs':List TV} (h:Ax0 xs xs'):∀ (c:Ctx) (w:World) (v:Value),Rep c w (.tup xs) v→Rep c w (.tup xs') v:=by
 rintro c w v ((h1 | h1 | ⟨us,h1,_⟩) | ⟨ys,vs,h1,h2,h3⟩)
 ·cases h1
 ·cases h1
 ·rw [Bc] at h1; exact h1.elim
 ·cases h1
  exact .inr ⟨xs',vs,rfl,h2,h.rep h3⟩
end
section
open Go.RowKit
variable [Cc] [Ba] [Bd]
theorem BmQ {H:List Ob} {o:Ob}:(H++[o])[H.length]?=some o:=by simp
theorem Azp {H:List Ob} {o p:Ob}:(H++[p]++[o])[H.length+1]?=some o:=by simp
theorem Bjh {a z:TV}:List.take 1 ((List.replicate 1 z).set 0 a)=[a]:=by simp [List.replicate]
theorem BlH:∀ l:List UInt8,NH (l.map by8)=true
 | []=>rfl
 | b::l=>by rw [List.map_cons,NH,BlH l]; rfl
theorem ADG:∀ l:List En,NH (l.map enT)=true
 | []=>rfl
 | x::l=>by
  rw [List.map_cons,NH,ADG l]
  show (true && (true && (NH (x.id.map by8) && true)) && true)=true
  rw [BlH]; rfl
theorem AzR (b:List UInt8) (hb:b.length≤1000000):Sr Tryz.prog 53 [slB b] (Bkc b):=by
 refine BD.toFreshV (ArF (by simp) ?_)
 have one_r:∀ z a:TV,(List.replicate 1 z).set 0 a=[a]:=fun z a=>by simp
 have hsp:([TV.val (.int .u8 ((0:Nat):Int))]:List TV)=[(0:UInt8)].map by8:=rfl
 have hsp2:([TV.val (.int .u8 ((32:Nat):Int))]:List TV)=[(32:UInt8)].map by8:=rfl
 have err:(∀ l,¬ U2 l b)→Bkc b (.tup [.val (.slice none 0 0),.ifc 34 (.val (.int .i64 21))]):=fun h=>⟨fun l hl=>absurd hl (h l),fun _=>rfl⟩
 simp -dsimp (disch:=first | assumption | omega | (simp only [Aa];try omega)) only [↓AB,Aj,AA,Az,eq_self,↓reduceIte,reduceCtorEq,↓AoF,↓AgN,↓Ahh]
 refine FU (fun q e H=>∃ (es:List En) (rest:List UInt8) (k v cp:Nat),q=rest.length∧es.length+rest.length≤1000000∧PI b es rest∧SE es∧(∀ x∈es,x.name.length≤1000000)∧H[k]?=some (.obj v (.arr es.length 22 (es.map enT)))∧e=[(0,slB rest),(4,.os 22 k v [] 0 es.length cp)]) b.length ?_ ?_
 ·exact ⟨[],b,0,0,0,rfl,by simpa using hb,PI.start b,List.Pairwise.nil,by simp,rfl,rfl⟩
 ·rintro q e H ⟨es,rest,k,v,cp,rfl,hrl,hP,hs,hnm,hk,rfl⟩
  by_cases hr0:rest=[]
  ·subst hr0
   have hso:=Btb es hP.ids (fun e he=>by have:=hnm e he; omega) (by omega)
   have hkt:(es.map enT).take es.length=es.map enT:=List.take_of_length_le (by simp)
   simp -dsimp (disch:=first | assumption | omega | (simp only [Aa];try omega)) only [↓AB,Aj,AA,Az,eq_self,Nat.reduceLT,Nat.reduceEqDiff,↓reduceIte,reduceCtorEq,↓Q9,↓Ajs]
   refine hso.lends (args':=[.sl 22 (es.map enT)]) (by simp -dsimp (disch:=first | assumption | omega | (simp only [Aa];try omega)) only [AA,Az,eq_self,↓reduceIte,hk,hkt]) fun r hr=>⟨by rw [hr]; rfl,?_⟩
   subst hr
   obtain ⟨f1,f2⟩:=hP.fin hs
   cases hsb:Arx es with
   | false =>
    have hno:¬ Ac5 es:=fun h=>by rw [(ADc hP.ids).2 h] at hsb; cases hsb
    simp -dsimp (disch:=first | assumption | omega | (simp only [Aa];try omega)) only [↓AB,Aj,AA,Az,eq_self,Nat.reduceEqDiff,↓reduceIte,reduceCtorEq,↓Dl]
    exact err fun l hl=>hno (f2 l hl).2
   | true =>
    have hok:=(ADc hP.ids).1 hsb
    simp -dsimp (disch:=first | assumption | omega | (simp only [Aa];try omega)) only [↓AB,Aj,AA,Az,eq_self,Nat.reduceEqDiff,↓reduceIte,reduceCtorEq,hk,hkt,↓Dl]
    rw [if_pos (ADG _)]
    exact ⟨fun l hl=>by rw [(f2 l hl).1],fun h=>absurd (f1 hok) (h es)⟩
  have hr1:0<rest.length:=List.length_pos_iff.2 hr0
  have bad:pEn rest=none→Bkc b (.tup [.val (.slice none 0 0),.ifc 34 (.val (.int .i64 21))]):=fun h=>err (hP.no hr0 h)
  simp -dsimp (disch:=first | assumption | omega | (simp only [Aa];try omega)) only [↓AB,Aj,AA,Az,eq_self,Nat.reduceEqDiff,↓reduceIte,reduceCtorEq,Nat.reduceLeDiff,↓Q9,↓Ai1,one_r]
  refine Blu (by rfl) BmQ (by simp) ?_
  simp -dsimp (disch:=first | assumption | omega | (simp only [Aa];try omega)) only [↓AB,Aj,AA,Az,eq_self,Nat.reduceEqDiff,↓reduceIte]
  rw [hsp2]
  refine (Byt rest 32 (by omega)).calls rfl fun r hr => ?_
  cases hA:QO 32 rest with
  | none =>
   rw [hr.2 hA]
   clear hr
   have hp0:pEn rest=none:=by unfold pEn; rw [hA]
   simp -dsimp (disch:=first | assumption | omega | (simp only [Aa];try omega)) only [↓AB,Aj,AA,Az,eq_self,Nat.reduceEqDiff,↓reduceIte,reduceCtorEq,Nat.reduceLeDiff,↓Rh,one_r]
   refine Blu (by rfl) Azp (by simp) ?_
   simp -dsimp (disch:=first | assumption | omega | (simp only [Aa];try omega)) only [↓AB,Aj,AA,Az,eq_self,Nat.reduceEqDiff,↓reduceIte]
   rw [hsp]
   refine ((Byt [] 0 (by simp)).argL (.cons ADf (.cons AEv.refl .nil))).calls rfl fun r hr => ?_
   rw [hr.2 rfl]
   clear hr
   simp -dsimp (disch:=first | assumption | omega | (simp only [Aa];try omega)) only [↓AB,Aj,AA,Az,eq_self,Nat.reduceEqDiff,↓reduceIte,↓LW]
   refine (Ao0 rest (by omega)).calls rfl fun r hr => ?_
   cases hpo:pO rest with
   | none =>
    obtain ⟨m,_,rfl⟩:=hr.2 hpo
    clear hr
    simp -dsimp (disch:=first | assumption | omega | (simp only [Aa];try omega)) only [↓AB,Aj,AA,Az,eq_self,Nat.reduceEqDiff,↓reduceIte,↓DF,↓Dl]
    exact bad hp0
   | some m =>
    rw [hr.1 m hpo]
    clear hr
    simp -dsimp (disch:=first | assumption | omega | (simp only [Aa];try omega)) only [↓AB,Aj,AA,Az,eq_self,Nat.reduceEqDiff,↓reduceIte,↓DF,↓Dl]
    exact bad hp0
  | some i =>
   rw [hr.1 i hA]
   clear hr
   have hi:=(Nj hA).1
   simp -dsimp (disch:=first | assumption | omega | (simp only [Aa];try omega)) only [↓AB,Aj,AA,Az,eq_self,Nat.reduceEqDiff,↓reduceIte,reduceCtorEq,Nat.reduceLeDiff,↓Rh,one_r]
   refine Blu (by rfl) Azp (by simp) ?_
   simp -dsimp (disch:=first | assumption | omega | (simp only [Aa];try omega)) only [↓AB,Aj,AA,Az,eq_self,Nat.reduceEqDiff,↓reduceIte]
   rw [hsp]
   refine (Byt (rest.drop (i+1)) 0 (by simp; omega)).calls rfl fun r hr => ?_
   cases hB:QO 0 (rest.drop (i+1)) with
   | none =>
    rw [hr.2 hB]
    clear hr
    have hp0:pEn rest=none:=by unfold pEn; rw [hA]; simp only; rw [hB]
    simp -dsimp (disch:=first | assumption | omega | (simp only [Aa];try omega)) only [↓AB,Aj,AA,Az,eq_self,Nat.reduceEqDiff,↓reduceIte,↓LW]
    refine (Ao0 (rest.take i) (by simp; omega)).calls rfl fun r hr => ?_
    cases hpo:pO (rest.take i) with
    | none =>
     obtain ⟨m,_,rfl⟩:=hr.2 hpo
     clear hr
     simp -dsimp (disch:=first | assumption | omega | (simp only [Aa];try omega)) only [↓AB,Aj,AA,Az,eq_self,Nat.reduceEqDiff,↓reduceIte,↓DF,↓Dl]
     exact bad hp0
    | some m =>
     rw [hr.1 m hpo]
     clear hr
     simp -dsimp (disch:=first | assumption | omega | (simp only [Aa];try omega)) only [↓AB,Aj,AA,Az,eq_self,Nat.reduceEqDiff,↓reduceIte,↓DF,↓Dl]
     exact bad hp0
   | some j =>
    rw [hr.1 j hB]
    clear hr
    have hj:=(Nj hB).1
    simp -dsimp (disch:=first | assumption | omega | (simp only [Aa];try omega)) only [↓AB,Aj,AA,Az,eq_self,Nat.reduceEqDiff,↓reduceIte,↓LW]
    refine (Ao0 (rest.take i) (by simp; omega)).calls rfl fun r hr => ?_
    cases hpo:pO (rest.take i) with
    | none =>
     have hp0:pEn rest=none:=by unfold pEn; rw [hA]; simp only; rw [hB]; simp only; rw [hpo]
     obtain ⟨m,_,rfl⟩:=hr.2 hpo
     clear hr
     simp -dsimp (disch:=first | assumption | omega | (simp only [Aa];try omega)) only [↓AB,Aj,AA,Az,eq_self,Nat.reduceEqDiff,↓reduceIte,↓DF,↓Dl]
     exact bad hp0
    | some m =>
     rw [hr.1 m hpo]
     clear hr
     have hpe:pEn rest=if (rest.take i)[0]?=some 48∨((rest.drop (i+1)).drop (j+1)).length<20 then none
      else some (⟨(m:Int),(rest.drop (i+1)).take j,((rest.drop (i+1)).drop (j+1)).take 20⟩,((rest.drop (i+1)).drop (j+1)).drop 20):=by
      unfold pEn; rw [hA]; simp only; rw [hB]; simp only; rw [hpo]
     have hne:rest.take i≠[]:=by
      unfold pO at hpo
      split at hpo
      ·rename_i h; exact h.1
      ·cases hpo
     have hm:m≤1048575:=by
      unfold pO at hpo
      split at hpo
      ·rename_i h; have:=Option.some.inj hpo; omega
      ·cases hpo
     have hnl:((rest.drop (i+1)).take j).length≤1000000:=by simp; omega
     have hrr:rest.length=i+1+(j+1)+((rest.drop (i+1)).drop (j+1)).length:=by simp at hj ⊢; omega
     have hi1:0<i:=by
      rcases Nat.eq_zero_or_pos i with h | h
      ·subst h; exact absurd rfl hne
      ·exact h
     generalize (rest.drop (i+1)).take j=nm at *
     generalize (rest.drop (i+1)).drop (j+1)=R at *
     obtain ⟨c,hc⟩:∃ c,(rest.take i)[0]?=some c:=⟨(rest.take i)[0]'(List.length_pos_iff.2 hne),List.getElem?_eq_getElem _⟩
     rw [hc] at hpe
     have hcl:((rest.take i).map by8)[0]?=some (by8 c):=by rw [List.getElem?_map,hc]; rfl
     generalize rest.take i=md at *
     have hR1:R.length≤1000000:=by omega
     by_cases hc48:c.toNat=48
     ·have hp0:pEn rest=none:=by rw [hpe,if_pos (.inl (by rw [show c=48 from UInt8.toNat_inj.1 hc48]))]
      simp -dsimp (disch:=first | assumption | omega | (simp only [Aa];try omega)) only [↓AB,Aj,AA,Az,eq_self,Nat.reduceEqDiff,↓reduceIte,hcl,hc48,↓DF,↓Dl]
      exact bad hp0
     by_cases hR20:R.length<20
     ·have hp0:pEn rest=none:=by rw [hpe,if_pos (.inr hR20)]
      simp -dsimp (disch:=first | assumption | omega | (simp only [Aa];try omega)) only [↓AB,Aj,AA,Az,eq_self,Nat.reduceEqDiff,↓reduceIte,hcl,hc48,hR20,↓DF,↓Dl]
      exact bad hp0
     have hp1:pEn rest=some (⟨(m:Int),nm,R.take 20⟩,R.drop 20):=by
      rw [hpe,if_neg]
      rintro (h | h)
      ·exact hc48 (by rw [Option.some.inj h]; rfl)
      ·exact hR20 h
     clear hpe bad
     have hP2:=hP.step hp1
     have hx20:(R.take 20).length=20:=by simp; omega
     have hmw:(((m:Int) % 18446744073709551616+9223372036854775808) % 18446744073709551616 - 9223372036854775808:Int)=(m:Int):=by omega
     simp -dsimp (disch:=first | assumption | omega | (simp only [Aa];try omega)) only [↓AB,Aj,AA,Az,eq_self,Nat.reduceLT,Nat.reduceEqDiff,↓reduceIte,Nat.reduceAdd,hcl,hc48,hR20,↓DF,↓Ajx]
     have hkl:=(List.getElem?_eq_some_iff.1 hk).1
     obtain ⟨en,hen,hen2⟩:∃ en:En,en=⟨(m:Int),nm,R.take 20⟩∧TV.agg [.val (.int .i64 (m:Int)),.val (.string (str nm)),.arr 20 1 ((R.take 20).map by8)]=enT en:=⟨_,rfl,rfl⟩
     rw [←hen] at hP2
     have hnl':en.name.length≤1000000:=by rw [hen]; exact hnl
     have hx20':en.id.length=20:=by rw [hen]; exact hx20
     rw [hen2]
     have g1:∀ T:List Ob,(H++[Ob.gone 0]++[Ob.gone 0]++[Ob.obj 0 (enT en)]++T)[k]?=some (.obj v (.arr es.length 22 (es.map enT))):=fun T=>by
      rw [List.append_assoc,List.append_assoc,List.append_assoc,List.getElem?_append_left hkl]; exact hk
     have g2:∀ T:List Ob,(H++[Ob.gone 0]++[Ob.gone 0]++[Ob.obj 0 (enT en)]++T)[H.length+1+1]?=some (.obj 0 (enT en)):=fun T=>by
      rw [List.getElem?_append_left (by simp),List.getElem?_append_right (by simp)]; simp
     have g1':=g1 []
     have g2':=g2 []
     rw [List.append_nil] at g1' g2'
     have gl:(H++[Ob.gone 0]++[Ob.gone 0]++[Ob.obj 0 (enT en)]).length=H.length+3:=by simp
     generalize H++[Ob.gone 0]++[Ob.gone 0]++[Ob.obj 0 (enT en)]=H1 at *
     rcases List.eq_nil_or_concat es with rfl | ⟨ys,x,hes⟩
     ·simp -dsimp (disch:=first | assumption | omega | (simp only [Aa];try omega)) only [↓AB,Aj,AA,Az,eq_self,Nat.reduceLT,Nat.reduceEqDiff,Nat.reduceMul,↓reduceIte,Nat.reduceAdd,reduceCtorEq,Nat.reduceLeDiff,g2',g1,Bjh,↓Rw,↓Sl]
      have hel:([]++[en]:List En).length=1:=rfl
      refine BQ (R.drop 20).length (by simp; omega) (by simp) ⟨[]++[en],R.drop 20,k,v+1,1,rfl,by simp; omega,hP2,List.pairwise_singleton _ _,by simpa using hnl',?_,rfl⟩
      rw [List.getElem?_append_left (by simp; omega),List.getElem?_set_self (by omega)]; rfl
     ·rw [List.concat_eq_append] at hes
      have hel:es.length=ys.length+1:=by rw [hes]; simp
      have hlx:(es.map enT)[es.length - 1]?=some (enT x):=by rw [hes]; simp
      have hx:=hP.ids x (by rw [hes]; simp)
      have hxn:=hnm x (by rw [hes]; simp)
      simp -dsimp (disch:=first | assumption | omega | (simp only [Aa];try omega)) only [↓AB,Aj,AA,Az,eq_self,Nat.reduceEqDiff,↓reduceIte,Nat.reduceAdd,g1',g2',hlx,↓Rw,↓Sl]
      refine (BuB x en hx hx20' (by omega) (by omega)).calls rfl fun r hr => ?_
      subst hr
      by_cases hlt:Lib.compareBytes (Yb x) (Yb en)<0
      case neg =>
       simp -dsimp (disch:=first | assumption | omega | (simp only [Aa];try omega)) only [↓AB,Aj,AA,Az,eq_self,Nat.reduceEqDiff,↓reduceIte,↓Dl]
       exact err (PI.unsorted (es:=ys) (x:=x) (e:=en) (r:=R.drop 20) (by rw [←hes]; exact hP2) fun h=>hlt (ABd.2 h))
      simp -dsimp (disch:=first | assumption | omega | (simp only [Aa];try omega)) only [↓AB,Aj,AA,Az,eq_self,Nat.reduceEqDiff,↓reduceIte,Nat.reduceAdd,reduceCtorEq,Nat.reduceLeDiff,g2',g1,Bjh]
      have hS:SE (es++[en]):=by rw [hes] at hs ⊢; exact hs.snoc (ABd.1 hlt)
      have hL:(es++[en]).length=es.length+1:=by simp
      refine BQ (R.drop 20).length (by simp; omega) (by simp) ⟨es++[en],R.drop 20,k,v+1,es.length+1,rfl,by simp; omega,hP2,hS,?_,?_,by rw [hL]; rfl⟩
      ·intro y hy
       rcases List.mem_append.1 hy with hy | hy
       ·exact hnm y hy
       ·rw [List.mem_singleton] at hy; subst hy; exact hnl'
      ·rw [List.getElem?_append_left (by simp; omega),List.getElem?_set_self (by omega),hL,List.map_append]; rfl
end
section
open Go.RowKit
variable [Cc] [AX] [Ba] [Bd] [GH]
def Bpq (c:Bk7):Prop:=c.tree.length=20∧(∀ x∈c.pars,x.length=20)∧c.pars.length≤1000000∧Qq c.author∧Qq c.comm
theorem Azk {p:Per} (h:EW p):(I8 p).length≤200:=by
 obtain ⟨n,m,t,z⟩:=p
 obtain ⟨h1,h2,h3,h4,_⟩:=h
 simp only at h3 h4
 have e1:=ADC t.toNat
 have e2:=Lib.nDigits_le20 t.toNat (by omega)
 have a:=h1.1
 have b:=h2.1
 simp only at *
 rw [AlV]
 simp only [List.length_append,List.length_cons,List.length_nil,AcX]
 omega
theorem ADb {p:Per} {r:TV} (hr:Blo p r):∃ tx ok,r = .tup [ts tx,tb ok]∧(ok=true→EW p∧tx=I8 p)∧(ok=false→¬ EW p):=by
 by_cases h:EW p
 ·exact ⟨_,true,hr.1 h,fun _=>⟨h,rfl⟩,fun h=>(by cases h)⟩
 ·exact ⟨_,false,hr.2 h,fun h=>(by cases h),fun _=>h⟩
def BlM (tr:List UInt8) (ps:List (List UInt8)):List UInt8:=Ea++32::(FW tr++10::LJ (ps.map FW))
theorem Bu9 {tr:List UInt8}:([116,114,101,101,32]:List UInt8)++FW tr++[10]=BlM tr []:=by simp [BlM,Ea,LJ]
theorem Bjy {tr p:List UInt8} {ps:List (List UInt8)}:BlM tr ps++[112,97,114,101,110,116,32]++FW p++[10]=BlM tr (ps++[p]):=by
 have:=AlY (v:=FW p) (l:=ps.map FW) (r:=[])
 simp only [BlM,List.map_append,List.map_cons,List.map_nil,List.append_nil] at this ⊢
 rw [this]
 simp [Et]
theorem BnP {tr a d m:List UInt8} {ps:List (List UInt8)}:BlM tr ps++[97,117,116,104,111,114,32]++a++[10,99,111,109,109,105,116,116,101,114,32]++d++[10,10]++m=BuO (FW tr) (ps.map FW) a d m:=by
 simp [BlM,BuO,Vp,Cf,BM]
theorem Axw:∀ {ps:List (List UInt8)},(∀ x∈ps,x.length=20)→(LJ (ps.map FW)).length=48*ps.length
 | [],_=>rfl
 | p::ps,h=>by
  have:=Axw (ps:=ps) fun x hx=>h x (by simp [hx])
  have h20:=h p (by simp)
  have hh:(FW p).length=40:=by rw [Uj]; omega
  simp only [List.map_cons,LJ,List.length_append,List.length_cons,hh,this,Et,List.length_nil]
  omega
theorem ADq {tr:List UInt8} {ps:List (List UInt8)} (h20:tr.length=20) (h:∀ x∈ps,x.length=20):(BlM tr ps).length=46+48*ps.length:=by
 have hh:(FW tr).length=40:=by rw [Uj]; omega
 simp only [BlM,List.length_append,List.length_cons,hh,Axw h,Ea,List.length_nil]
 omega
end
section
open Go.RowKit
variable [Cc] [AX] [Ba] [Bd] [GH]
structure RcH (H:List Ob) (rest:List UInt8) (β:Bool) (X:TV) (v:Nat) (ps:List TV):Prop where
 z:H[0]?=some (.obj 0 Boi)
 f:H[1]?=some (.obj 0 (.agg [ts rest,tb β]))
 c:H[2]?=some (.obj 0 X)
 p:H[5]?=some (.obj v (.arr ps.length 20 ps))
section
variable {H:List Ob} {rest r':List UInt8} {β β':Bool} {X X':TV} {v v':Nat} {ps ps':List TV}
theorem RcH.len (h:RcH H rest β X v ps):5<H.length:=(List.getElem?_eq_some_iff.1 h.p).1
theorem RcH.app (h:RcH H rest β X v ps) (T:List Ob):RcH (H++T) rest β X v ps:=by
 have hl:=h.len
 exact ⟨by rw [List.getElem?_append_left (by omega)]; exact h.z,by rw [List.getElem?_append_left (by omega)]; exact h.f,by rw [List.getElem?_append_left (by omega)]; exact h.c,by rw [List.getElem?_append_left (by omega)]; exact h.p⟩
theorem RcH.setF (h:RcH H rest β X v ps) (r':List UInt8) (β':Bool):RcH (H.set 1 (.obj 0 (.agg [ts r',tb β']))) r' β' X v ps:=by
 have hl:=h.len
 exact ⟨by rw [List.getElem?_set_ne (by omega)]; exact h.z,by rw [List.getElem?_set_self (by omega)],by rw [List.getElem?_set_ne (by omega)]; exact h.c,by rw [List.getElem?_set_ne (by omega)]; exact h.p⟩
theorem RcH.setC (h:RcH H rest β X v ps) (X':TV):RcH (H.set 2 (.obj 0 X')) rest β X' v ps:=by
 have hl:=h.len
 exact ⟨by rw [List.getElem?_set_ne (by omega)]; exact h.z,by rw [List.getElem?_set_ne (by omega)]; exact h.f,by rw [List.getElem?_set_self (by omega)],by rw [List.getElem?_set_ne (by omega)]; exact h.p⟩
theorem RcH.setP (h:RcH H rest β X v ps) (v':Nat) (ps':List TV) (n:Nat) (hn:n=ps'.length):RcH (H.set 5 (.obj v' (.arr n 20 ps'))) rest β X v' ps':=by
 have hl:=h.len
 subst hn
 exact ⟨by rw [List.getElem?_set_ne (by omega)]; exact h.z,by rw [List.getElem?_set_ne (by omega)]; exact h.f,by rw [List.getElem?_set_ne (by omega)]; exact h.c,by rw [List.getElem?_set_self (by omega)]⟩
end
theorem Atf {a z:TV}:List.take 1 ((List.replicate 1 z).set 0 a)=[a]:=by simp [List.replicate]
theorem BpB:∀ l:List UInt8,NH (l.map by8)=true
 | []=>rfl
 | b::l=>by rw [List.map_cons,NH,BpB l]; rfl
theorem Abd:∀ l:List (List UInt8),NH (l.map Lp)=true
 | []=>rfl
 | x::l=>by
  rw [List.map_cons,NH,Abd l]
  show (NH (x.map by8) && true)=true
  rw [BpB]; rfl
abbrev Bsc (x:List UInt8) (v n cp:Nat):TV := .agg [Lp (BC x),.os 20 5 v [] 0 n cp,OL ⟨[],[],0,0⟩,OL ⟨[],[],0,0⟩,ts []]
theorem AuS (s:List UInt8) (hs:s.length≤1000000):Sr Tryz.prog 43 [slB s] (BuQ s):=by
 refine BD.toFreshV (Ama (by simp) ?_)
 have m1:=V6 Ea s
 simp -dsimp (disch:=first | assumption | omega | (simp only [Aa];try omega)) only [↓AB,Aj,AA,Az,eq_self,Nat.reduceEqDiff,↓reduceIte,Nat.reduceAdd,reduceCtorEq,↓Aj9,↓AfF,↓Afl,↓Afs]
 refine Aqa (Bj9 (w:=Ea) hs (by decide) rfl ?_)
 simp -dsimp (disch:=first | assumption | omega | (simp only [Aa];try omega)) only [↓AB,Aj,AA,Az,eq_self,Nat.reduceEqDiff,↓reduceIte]
 refine Aqa (idV (x:=mv Ea s) (by omega) rfl ?_)
 have hpl:((BC (mv Ea s)).map by8).length=20:=by rw [List.length_map]; exact Ew
 simp -dsimp (disch:=first | assumption | omega | (simp only [Aa];try omega)) only [↓AB,Aj,AA,Az,eq_self,Nat.reduceEqDiff,↓reduceIte,Nat.reduceAdd,↓Ade]
 refine FU (fun q e H=>∃ (l:List (List UInt8)) (rest:List UInt8) (β:Bool) (v cp:Nat),q=rest.length∧mr Ea s=LJ l++rest∧(∀ x∈l,10∉x)∧β=(mb Ea s || !FT (mv Ea s) || !(l.all FT)) ∧
  RcH H rest β (Bsc (mv Ea s) v l.length cp) v ((l.map BC).map Lp)∧e=[(2,.op 0 0 []),(4,.op 1 0 []),(5,.op 2 0 [])]) (mr Ea s).length ?_ ?_
 ·refine ⟨[],mr Ea s,_,0,0,rfl,rfl,by simp,?_,⟨rfl,rfl,rfl,rfl⟩,rfl⟩
  simp
 ·rintro q e H ⟨l,rest,β,v,cp,rfl,hspl,h10,rfl,R,rfl⟩
  have hrl:l.length+rest.length≤1000000:=by
   have h1:=congrArg List.length hspl
   have h2:=AzC l
   rw [List.length_append] at h1
   omega
  have hpsl:((l.map BC).map Lp).length=l.length:=by simp
  have m2:=V6 Et rest
  simp -dsimp (disch:=first | assumption | omega | (simp only [Aa];try omega)) only [↓AB,Aj,AA,Az,eq_self,Nat.reduceEqDiff,↓reduceIte,↓AcU]
  refine Aqa (BsR (w:=Et) (by omega) (by decide) R.f ?_)
  have R1:=R.setF (mr Et rest) (mb Ea s || !FT (mv Ea s) || !(l.all FT))
  have hH1l:(H.set 1 (.obj 0 (.agg [ts (mr Et rest),tb (mb Ea s || !FT (mv Ea s) || !(l.all FT))]))).length=H.length:=List.length_set ..
  generalize H.set 1 (.obj 0 (.agg [ts (mr Et rest),tb (mb Ea s || !FT (mv Ea s) || !(l.all FT))]))=H1 at *
  cases hb:mb Et rest with
  | false =>
   obtain ⟨hmo,hm10⟩:=Pj hb
   have hsn:=AlY (v:=mv Et rest) (l:=l) (r:=mr Et rest)
   rw [←hmo,←hspl] at hsn
   have hlr:=congrArg List.length hmo
   simp only [List.length_append,List.length_cons] at hlr
   generalize mv Et rest=x at *
   generalize mr Et rest=rest' at *
   have hxp:((BC x).map by8).length=20:=by rw [List.length_map]; exact Ew
   simp -dsimp (disch:=first | assumption | omega | (simp only [Aa];try omega)) only [↓AB,Aj,AA,Az,eq_self,Nat.reduceEqDiff,Nat.reduceMod,↓reduceIte,Nat.reduceAdd,R1.c]
   refine BD.callsP (idV (x:=x) (by omega) R1.f ?_)
   refine ⟨?_,?_⟩
   case refine_2 =>
    change Aat [24] _ _ _
    refine BqY (id:=2) (ver:=0) (p:=[(1,20)]) (by simp [get]) ?_ O1
    rw [List.append_assoc,List.getElem?_append_left (by rw [List.length_set]; have:=R1.len; omega),List.getElem?_set_ne (by omega)]
   have R2:=(R1.setF rest' (mb Ea s || !FT (mv Ea s) || !(l.all FT) || !FT x)).app ([.obj 0 (.arr 20 1 ((BC x).map by8))]++[.obj 0 (.arr 20 1 ((BC x).map by8))])
   rw [List.append_assoc]
   generalize H1.set 1 (.obj 0 (.agg [ts rest',tb (mb Ea s || !FT (mv Ea s) || !(l.all FT) || !FT x)]))++([Ob.obj 0 (.arr 20 1 ((BC x).map by8))]++[.obj 0 (.arr 20 1 ((BC x).map by8))])=H2 at *
   have hpt:∀ q:List TV,((l.map BC).map Lp++q).take ((l.map BC).map Lp).length=(l.map BC).map Lp:=fun q=>List.take_left' rfl
   have hY5:∀ T:List Ob,(H2++T)[5]?=some (.obj v (.arr ((l.map BC).map Lp).length 20 ((l.map BC).map Lp))):=fun T=>(R2.app T).p
   have hY2:∀ T:List Ob,(H2++T)[2]?=some (.obj 0 (Bsc (mv Ea s) v l.length cp)):=fun T=>(R2.app T).c
   have hzl:((BC (mv Ea s)).map by8).length=20:=by rw [List.length_map]; exact Ew
   simp -dsimp (disch:=first | assumption | omega | (simp only [Aa];try omega)) only [↓AB,Aj,AA,Az,eq_self,Nat.reduceEqDiff,↓reduceIte,Nat.reduceAdd,Nat.reduceLeDiff,hY5,hY2,hpsl,Atf]
   refine ⟨?_,O1⟩
   have R6:=((R2.app [Ob.obj 0 (.arr 1 20 ((List.replicate 1 (.arr 20 1 (List.replicate 20 (.val (.int .u8 ((0:Nat):Int)))))).set 0 (Lp (BC x))))]).setP (v+1) (((l++[x]).map BC).map Lp) (l.length+1) (by simp)).setC (Bsc (mv Ea s) (v+1) (l.length+1) (l.length+1))
   have e1:((l++[x]).map BC).map Lp=(l.map BC).map Lp++[TV.arr 20 1 ((BC x).map by8)]:=by simp
   have e2:(l++[x]).length=l.length+1:=by simp
   refine BQ rest'.length (by omega) (by simp; have:=R2.len; omega) ⟨l++[x],rest',_,v+1,l.length+1,rfl,hsn.symm,?_,?_,by rw [e1,e2]; rw [e1] at R6; exact R6,rfl⟩
   ·intro y hy
    rcases List.mem_append.1 hy with hy | hy
    ·exact h10 y hy
    ·rw [List.mem_singleton] at hy; subst hy; exact hm10
   ·simp [List.all_append,Bool.or_assoc,Bool.not_and]
  | true =>
   have hmr:mr Et rest=rest:=by unfold mr; rw [BrS hb]
   rw [hmr] at R1
   simp -dsimp (disch:=first | assumption | omega | (simp only [Aa];try omega)) only [↓AB,Aj,AA,Az,eq_self,Nat.reduceEqDiff,↓reduceIte,↓Ac2]
   refine Aqa (AB1 (w:=Cf) (s:=rest) (by omega) (by decide) R1.f fun q1 ok1 h1 h1' => ?_)
   have m3:=V6 Cf rest
   generalize hB1:(mb Ea s || !FT (mv Ea s) || !l.all FT || mb Cf rest || !ok1)=B1
   have R3:=(R1.setF (mr Cf rest) B1).app ([.obj 0 (OL q1)]++[.obj 0 (OL q1)])
   rw [List.append_assoc]
   generalize H1.set 1 (.obj 0 (.agg [ts (mr Cf rest),tb B1]))++([Ob.obj 0 (OL q1)]++[.obj 0 (OL q1)])=H3 at *
   simp -dsimp (disch:=first | assumption | omega | (simp only [Aa];try omega)) only [↓AB,Aj,AA,Az,eq_self,Nat.reduceEqDiff,↓reduceIte]
   refine Aqa (AB1 (w:=BM) (s:=mr Cf rest) (by omega) (by decide) R3.f fun q2 ok2 h2 h2' => ?_)
   have m4:=V6 BM (mr Cf rest)
   generalize hB2:(B1 || mb BM (mr Cf rest) || !ok2)=B2
   have R4:=(R3.setF (mr BM (mr Cf rest)) B2).app ([.obj 0 (OL q2)]++[.obj 0 (OL q2)])
   rw [List.append_assoc]
   generalize H3.set 1 (.obj 0 (.agg [ts (mr BM (mr Cf rest)),tb B2]))++([Ob.obj 0 (OL q2)]++[.obj 0 (OL q2)])=H4 at *
   have hzl:((BC (mv Ea s)).map by8).length=20:=by rw [List.length_map]; exact Ew
   have R5:=fun X=>R4.setC X
   have hS:∀ a b:Ob,(H4.set 2 a).set 2 b=H4.set 2 b:=fun a b=>List.set_set ..
   have hS2:∀ a:Ob,(H4.set 2 a)[2]?=some a:=fun a=>List.getElem?_set_self (by have:=R4.len; omega)
   simp -dsimp (disch:=first | assumption | omega | (simp only [Aa];try omega)) only [↓AB,Aj,AA,Az,eq_self,Nat.reduceEqDiff,↓reduceIte,Nat.reduceAdd,R4.c,hS,hS2,↓AfO]
   refine Aqa (AAD (s:=mr BM (mr Cf rest)) (R5 _).f ?_)
   generalize hB3:(B2 || !Lib.hasPrefix (mr BM (mr Cf rest)) [10] || !Wq (Lib.trimPrefix (mr BM (mr Cf rest)) [10]))=B3
   generalize hmm:Lib.trimPrefix (mr BM (mr Cf rest)) [10]=msg
   have R6:=fun X=>(R5 X).setF (mr BM (mr Cf rest)) B3
   have R7:=fun X X'=>(R6 X).setC X'
   have hS3:∀ a b c:Ob,(((H4.set 2 a).set 1 b).set 2 c)=((H4.set 2 c).set 1 b):=fun a b c=>by rw [List.set_comm _ _ (by omega:(1:Nat)≠2),List.set_set]
   simp -dsimp (disch:=first | assumption | omega | (simp only [Aa];try omega)) only [↓AB,Aj,AA,Az,eq_self,Nat.reduceEqDiff,↓reduceIte,Nat.reduceAdd,(R6 _).c,hS3]
   have R8:=R6 (.agg [Lp (BC (mv Ea s)),.os 20 5 v [] 0 l.length cp,OL q1,OL q2,ts msg])
   have htw:=BvG (l.map BC) (fun y hy=>by obtain ⟨z,_,rfl⟩:=List.mem_map.1 hy; exact Ew) (by simp; omega)
   have hgood:AgO s (mv Ea s) l rest ok1 ok2 (decide (l.map BC).Nodup)=(!B3 && decide (l.length≤8) && decide (l.map BC).Nodup):=by
    rw [←hB3,←hB2,←hB1]
    simp only [AgO,Bool.not_or,Bool.not_not,Bool.and_assoc,hmm]
   have hRead:mb Ea s=false→Bpr s (mv Ea s) l rest:=fun h=>⟨by rw [←hspl]; exact (Pj h).1,(Pj h).2,h10,hb⟩
   have fin:=Bjt (s:=s) (x:=mv Ea s) (t:=rest) (ps:=l) (ok1:=ok1) (ok2:=ok2) (nd:=decide (l.map BC).Nodup) (q1:=q1) (q2:=q2) hRead (fun _=>by simp) h1 h1' h2 h2'
   rw [hgood,hmm] at fin
   have bad:(!B3 && decide (l.length≤8) && decide (l.map BC).Nodup)=false→BuQ s (.tup [Boi,eno 22]):=fun h=>⟨fun c hc e=>absurd e (fin.1 h c hc),fun _=>rfl⟩
   have hpt:((l.map BC).map Lp).take l.length=(l.map BC).map Lp:=List.take_of_length_le (by simp)
   clear hgood R6 R5 R4 R3 R1 hB3 hB2 hB1 h1 h1' h2 h2' hRead hS hS2
   generalize (H4.set 2 (Ob.obj 0 (.agg [Lp (BC (mv Ea s)),.os 20 5 v [] 0 l.length cp,OL q1,OL q2,ts msg]))).set 1 (.obj 0 (.agg [ts (mr BM (mr Cf rest)),tb B3]))=H7 at *
   have h7l:=R8.len
   have h70:∀ a:Ob,(H7.set 0 a)[0]?=some a:=fun a=>List.getElem?_set_self (by omega)
   have h75:∀ a:Ob,(H7.set 0 a)[5]?=H7[5]?:=fun a=>List.getElem?_set_ne (by omega)
   cases B3 with
   | true =>
    simp -dsimp (disch:=first | assumption | omega | (simp only [Aa];try omega)) only [↓AB,Aj,AA,Az,eq_self,Nat.reduceEqDiff,↓reduceIte,Nat.reduceAdd,R8.f,R8.z,h70,↓KR,↓Jw]
    exact bad rfl
   | false =>
    by_cases h8:l.length≤8
    case neg =>
     simp -dsimp (disch:=first | assumption | omega | (simp only [Aa];try omega)) only [↓AB,Aj,AA,Az,eq_self,Nat.reduceEqDiff,↓reduceIte,Nat.reduceAdd,R8.f,R8.z,R8.c,h70,↓KR,↓Jw]
     exact bad (by simp [h8])
    simp -dsimp (disch:=first | assumption | omega | (simp only [Aa];try omega)) only [↓AB,Aj,AA,Az,eq_self,Nat.reduceEqDiff,↓reduceIte,Nat.reduceAdd,R8.f,R8.c,↓KR]
    refine htw.lends (args':=[.sl 20 ((l.map BC).map Lp)]) (by simp -dsimp (disch:=first | assumption | omega | (simp only [Aa];try omega)) only [AA,Az,eq_self,↓reduceIte,R8.p,hpsl]) fun r hr=>⟨by rw [hr]; rfl,?_⟩
    subst hr
    by_cases hnd:(l.map BC).Nodup
    case neg =>
     simp -dsimp (disch:=first | assumption | omega | (simp only [Aa];try omega)) only [↓AB,Aj,AA,Az,eq_self,Nat.reduceEqDiff,↓reduceIte,Nat.reduceAdd,hnd,R8.z,h70,↓Jw]
     exact bad (by simp [hnd])
    simp -dsimp (disch:=first | assumption | omega | (simp only [Aa];try omega)) only [↓AB,Aj,AA,Az,eq_self,Nat.reduceEqDiff,↓reduceIte,Nat.reduceAdd,hnd,R8.z,R8.c,h70,h75,R8.p,hpsl,↓Jw]
    rw [if_pos (Abd _)]
    have hg:=fin.2.1 (by simp [h8,hnd])
    exact ⟨fun c hc e=>by rw [(fin.2.2 c hc e).2],fun h=>absurd hg.2 (h _ hg.1)⟩
end
section
open Go.RowKit
variable [Cc] [AX] [Ba] [Bd] [GH] [BI]
theorem ACx (s:List UInt8) (hs:s.length≤1000000):CE Tryz.prog 38 [slB s] (Bp3 s):=by
 refine BD.toPureV (Asl (by simp) ?_)
 have m1:=V6 MB s
 have m2:=V6 AbW (tr1 s)
 have m3:=V6 AyJ (tr2 s)
 have m4:=V6 LD (tr3 s)
 simp -dsimp (disch:=first | assumption | omega | (simp only [Aa];try omega)) only [↓AB,Aj,AA,Az,eq_self,Nat.reduceEqDiff,↓reduceIte,reduceCtorEq,↓ArW,↓AjX,↓Alc]
 refine Aqa (Bj9 (w:=MB) hs (by decide) rfl ?_)
 simp -dsimp (disch:=first | assumption | omega | (simp only [Aa];try omega)) only [↓AB,Aj,AA,Az,eq_self,Nat.reduceEqDiff,↓reduceIte]
 refine Aqa (idV (x:=mv MB s) (by omega) rfl ?_)
 simp -dsimp (disch:=first | assumption | omega | (simp only [Aa];try omega)) only [↓AB,Aj,AA,Az,eq_self,Nat.reduceEqDiff,↓reduceIte,Nat.reduceAdd,↓AlH]
 refine Aqa (Bj9 (w:=AbW) (s:=tr1 s) (by unfold tr1; omega) (by decide) rfl ?_)
 simp -dsimp (disch:=first | assumption | omega | (simp only [Aa];try omega)) only [↓AB,Aj,AA,Az,eq_self,↓reduceIte]
 refine (Brs (mv AbW (tr1 s))).calls rfl fun r hr => ?_
 obtain ⟨k0,kb,rfl,hkb1,hkb2⟩:∃ (k0:Int) (kb:Bool),r = .tup [i64 k0,tb kb]∧(kb=true→EK k0=some (mv AbW (tr1 s)))∧(kb=false→∀ k,EK k≠some (mv AbW (tr1 s))):=by
  by_cases h:∃ k,EK k=some (mv AbW (tr1 s))
  ·obtain ⟨k,hk⟩:=h
   exact ⟨k,true,hr.1 k hk,fun _=>hk,fun h=>(by cases h)⟩
  ·have h':∀ k,EK k≠some (mv AbW (tr1 s)):=fun k hk=>h ⟨k,hk⟩
   exact ⟨_,false,hr.2 h',fun h=>(by cases h),fun _=>h'⟩
 simp -dsimp (disch:=first | assumption | omega | (simp only [Aa];try omega)) only [↓AB,Aj,AA,Az,eq_self,Nat.reduceEqDiff,↓reduceIte,↓Ali]
 refine Aqa (Bj9 (w:=AyJ) (s:=tr2 s) (by unfold tr2 tr1 at *; omega) (by decide) rfl ?_)
 simp -dsimp (disch:=first | assumption | omega | (simp only [Aa];try omega)) only [↓AB,Aj,AA,Az,eq_self,Nat.reduceEqDiff,↓reduceIte,Nat.reduceAdd,↓Aks]
 refine Aqa (AB1 (w:=LD) (s:=tr3 s) (by unfold tr3 tr2 tr1 at *; omega) (by decide) rfl fun q ok hq1 hq2 => ?_)
 simp -dsimp (disch:=first | assumption | omega | (simp only [Aa];try omega)) only [↓AB,Aj,AA,Az,eq_self,Nat.reduceEqDiff,↓reduceIte,Nat.reduceAdd,↓Akj]
 refine Aqa (AAD (s:=tr4 s) rfl ?_)
 have hB0:(false || mb MB s || !FT (mv MB s) || mb AbW (tr1 s) || mb AyJ (tr2 s) || mb LD (tr3 s) || !ok || !Lib.hasPrefix (tr4 s) [10] || !Wq (Lib.trimPrefix (tr4 s) [10]))=(ADv s || !FT (tv1 s) || !ok || !Lib.hasPrefix (tr4 s) [10] || !Wq (Lib.trimPrefix (tr4 s) [10])):=by
  unfold ADv tv1
  generalize mb MB s=a1
  generalize mb AbW (tr1 s)=a2
  generalize mb AyJ (tr2 s)=a3
  generalize mb LD (tr3 s)=a4
  generalize FT (mv MB s)=a5
  cases a1<;>cases a2<;>cases a3<;>cases a4<;>cases a5<;>rfl
 rw [hB0]
 have hit:=Btl (mv AyJ (tr2 s)) (by unfold tr2 tr1 at *; omega)
 have fin:=Bqg (s:=s) (k0:=k0) (kb:=kb) (q:=q) (ok:=ok) hkb1 hkb2 hq1 hq2
 generalize (ADv s || !FT (tv1 s) || !ok || !Lib.hasPrefix (tr4 s) [10] || !Wq (Lib.trimPrefix (tr4 s) [10]))=B at *
 clear hkb1 hkb2 hq1 hq2 hB0 hr
 cases B with
 | true =>
  simp -dsimp (disch:=first | assumption | omega | (simp only [Aa];try omega)) only [↓AB,Aj,AA,Az,eq_self,Nat.reduceEqDiff,↓reduceIte,Nat.reduceAdd,↓MZ,↓MJ]
  exact fin.1 (.inl rfl)
 | false =>
  cases kb with
  | false =>
   simp -dsimp (disch:=first | assumption | omega | (simp only [Aa];try omega)) only [↓AB,Aj,AA,Az,eq_self,Nat.reduceEqDiff,↓reduceIte,Nat.reduceAdd,↓MZ,↓MJ]
   exact fin.1 (.inr (.inl rfl))
  | true =>
   simp -dsimp (disch:=first | assumption | omega | (simp only [Aa];try omega)) only [↓AB,Aj,AA,Az,eq_self,Nat.reduceEqDiff,↓reduceIte,Nat.reduceAdd,↓MZ]
   refine hit.calls rfl fun r hr => ?_
   subst hr
   cases hg:Wx (mv AyJ (tr2 s)) with
   | false =>
    simp -dsimp (disch:=first | assumption | omega | (simp only [Aa];try omega)) only [↓AB,Aj,AA,Az,eq_self,Nat.reduceEqDiff,↓reduceIte,Nat.reduceAdd,↓MJ]
    exact fin.1 (.inr (.inr hg))
   | true =>
    simp -dsimp (disch:=first | assumption | omega | (simp only [Aa];try omega)) only [↓AB,Aj,AA,Az,eq_self,Nat.reduceEqDiff,↓reduceIte,Nat.reduceAdd,↓MJ]
    exact fin.2 ⟨rfl,rfl,hg⟩
end
section
variable [Cc]
set_option maxRecDepth 100000
def Am5:AP := .seq (.ops [so_ 1 (.box (.t 0)),po_ 2 (.mov (.c .nilIface))] [1])
 (.seq (.ops [po_ 6 (.load true 2 (.t 1)),so_ 7 (.call 22 [.t 6]),mv_ 5 7,po_ 8 (.ext 0 (.t 5)),po_ 9 (.ext 1 (.t 5)),mv_ 3 8,mv_ 4 9] [4])
 (.seq (.ops [mv_ 10 4,mv_ 2 10] [2])
 (.ret)))
def Am7:List VR:=[.tmp 2]
theorem Awx:Tryz.f21.body.bind (trC Tryz.prog Tryz.f21.ntmps)=some (er Am5):=by kernel_rfl
theorem Awq:trR Tryz.prog Tryz.f21.results.toList=some Am7:=by kernel_rfl
def AtQ:=Ac Am5.eq_1
theorem AhH {K:TV→Prop} {e:Env} {H:List Ob}:res Am7 e H K=res [.tmp 2] e H K:=Ap rfl
def AuR:=ES 11 Tryz.func21 Awx Awq rfl
def AfQ:AP := .seq (.ops [po_ 45 (.bin 3 .lss (.t 44) (.t 43))] [6,42,43,44,45])
 (.seq (.cond (.t 45)
 (.skip)
 (.exit 1))
 (.seq (.block 2 (.seq (.ops [po_ 46 (.idxA 22 (.t 42) (.t 44)),po_ 47 (.load true 22 (.t 46)),so_ 10 (.alloc (.agg [.val (.int .i64 ((0:Nat):Int)),.val (.string (str [])),.arr 20 1 [.val (.int .u8 ((0:Nat):Int)),.val (.int .u8 ((0:Nat):Int)),.val (.int .u8 ((0:Nat):Int)),.val (.int .u8 ((0:Nat):Int)),.val (.int .u8 ((0:Nat):Int)),.val (.int .u8 ((0:Nat):Int)),.val (.int .u8 ((0:Nat):Int)),.val (.int .u8 ((0:Nat):Int)),.val (.int .u8 ((0:Nat):Int)),.val (.int .u8 ((0:Nat):Int)),.val (.int .u8 ((0:Nat):Int)),.val (.int .u8 ((0:Nat):Int)),.val (.int .u8 ((0:Nat):Int)),.val (.int .u8 ((0:Nat):Int)),.val (.int .u8 ((0:Nat):Int)),.val (.int .u8 ((0:Nat):Int)),.val (.int .u8 ((0:Nat):Int)),.val (.int .u8 ((0:Nat):Int)),.val (.int .u8 ((0:Nat):Int)),.val (.int .u8 ((0:Nat):Int))]])),⟨none,.s (.store 22 (.t 10) (.t 47)),none⟩] [6,10,42,43,44])
 (.ops [mv_ 48 6,po_ 49 (.fieldA 2 2 (.t 10)),po_ 50 (.load true 20 (.t 49)),⟨some 51,.s (.bslice 20 1 (.arr 20 1 [.val (.int .u8 ((0:Nat):Int)),.val (.int .u8 ((0:Nat):Int)),.val (.int .u8 ((0:Nat):Int)),.val (.int .u8 ((0:Nat):Int)),.val (.int .u8 ((0:Nat):Int)),.val (.int .u8 ((0:Nat):Int)),.val (.int .u8 ((0:Nat):Int)),.val (.int .u8 ((0:Nat):Int)),.val (.int .u8 ((0:Nat):Int)),.val (.int .u8 ((0:Nat):Int)),.val (.int .u8 ((0:Nat):Int)),.val (.int .u8 ((0:Nat):Int)),.val (.int .u8 ((0:Nat):Int)),.val (.int .u8 ((0:Nat):Int)),.val (.int .u8 ((0:Nat):Int)),.val (.int .u8 ((0:Nat):Int)),.val (.int .u8 ((0:Nat):Int)),.val (.int .u8 ((0:Nat):Int)),.val (.int .u8 ((0:Nat):Int)),.val (.int .u8 ((0:Nat):Int))]) [⟨0,.t 50⟩]),none⟩,so_ 52 (.app 20 20 23 (.t 48) (.t 51)),mv_ 6 52] [6,42,43,44])))
 (.ops [po_ 53 (.bin 3 .add (.t 44) (ci_ 1)),mv_ 44 53] [6,42,43,44])))
def AeH:AP := .block 1 (.own 6 20 (.loop [6,42,43,44] AfQ))
def Adg:AP := .seq (.ops [mv_ 42 7,po_ 43 (.lenV (.t 42)),po_ 44 (.mov (ci_ 0))] [6,42,43,44])
 AeH
def Aey:AP := .seq (.seq (.ops [mv_ 39 8,po_ 40 (.eqN 1 (.t 39) (.c .nilIface) true)] [6,7,8,40])
 (.cond (.t 40)
 (.seq (.ops [mv_ 41 8,po_ 2 (.mov (.c (.slice none 0 0))),mv_ 3 41] [2,3])
  (.ret))
 (.skip)))
 Adg
def Adn:AP := .seq (.ops [po_ 34 (.fieldA 1 1 (.t 1)),po_ 35 (.load false 1 (.t 34)),so_ 36 (.call 53 [.t 35]),mv_ 33 36,po_ 37 (.ext 0 (.t 33)),po_ 38 (.ext 1 (.t 33)),mv_ 7 37,mv_ 8 38] [6,7,8])
 Aey
def AfD:AP := .seq (.ops [po_ 57 (.fieldA 1 1 (.t 1)),po_ 58 (.load false 1 (.t 57)),so_ 59 (.call 43 [.t 58]),mv_ 56 59,po_ 60 (.ext 0 (.t 56)),po_ 61 (.ext 1 (.t 56)),so_ 11 (.alloc (.agg [.arr 20 1 [.val (.int .u8 ((0:Nat):Int)),.val (.int .u8 ((0:Nat):Int)),.val (.int .u8 ((0:Nat):Int)),.val (.int .u8 ((0:Nat):Int)),.val (.int .u8 ((0:Nat):Int)),.val (.int .u8 ((0:Nat):Int)),.val (.int .u8 ((0:Nat):Int)),.val (.int .u8 ((0:Nat):Int)),.val (.int .u8 ((0:Nat):Int)),.val (.int .u8 ((0:Nat):Int)),.val (.int .u8 ((0:Nat):Int)),.val (.int .u8 ((0:Nat):Int)),.val (.int .u8 ((0:Nat):Int)),.val (.int .u8 ((0:Nat):Int)),.val (.int .u8 ((0:Nat):Int)),.val (.int .u8 ((0:Nat):Int)),.val (.int .u8 ((0:Nat):Int)),.val (.int .u8 ((0:Nat):Int)),.val (.int .u8 ((0:Nat):Int)),.val (.int .u8 ((0:Nat):Int))],.val (.slice none 0 0),.agg [.val (.string (str [])),.val (.string (str [])),.val (.int .i64 ((0:Nat):Int)),.val (.int .i64 ((0:Nat):Int))],.agg [.val (.string (str [])),.val (.string (str [])),.val (.int .i64 ((0:Nat):Int)),.val (.int .i64 ((0:Nat):Int))],.val (.string (str []))])),⟨none,.s (.store 30 (.t 11) (.t 60)),none⟩,mv_ 12 61] [11,12])
 (.seq (.seq (.ops [mv_ 62 12,po_ 63 (.eqN 1 (.t 62) (.c .nilIface) true)] [11,12,63])
 (.cond (.t 63)
 (.seq (.ops [mv_ 64 12,po_ 2 (.mov (.c (.slice none 0 0))),mv_ 3 64] [2,3])
  (.ret))
 (.skip)))
 (.ops [po_ 65 (.fieldA 0 0 (.t 11)),po_ 66 (.load true 20 (.t 65)),⟨some 67,.s (.bslice 20 1 (.arr 20 1 [.val (.int .u8 ((0:Nat):Int)),.val (.int .u8 ((0:Nat):Int)),.val (.int .u8 ((0:Nat):Int)),.val (.int .u8 ((0:Nat):Int)),.val (.int .u8 ((0:Nat):Int)),.val (.int .u8 ((0:Nat):Int)),.val (.int .u8 ((0:Nat):Int)),.val (.int .u8 ((0:Nat):Int)),.val (.int .u8 ((0:Nat):Int)),.val (.int .u8 ((0:Nat):Int)),.val (.int .u8 ((0:Nat):Int)),.val (.int .u8 ((0:Nat):Int)),.val (.int .u8 ((0:Nat):Int)),.val (.int .u8 ((0:Nat):Int)),.val (.int .u8 ((0:Nat):Int)),.val (.int .u8 ((0:Nat):Int)),.val (.int .u8 ((0:Nat):Int)),.val (.int .u8 ((0:Nat):Int)),.val (.int .u8 ((0:Nat):Int)),.val (.int .u8 ((0:Nat):Int))]) [⟨0,.t 66⟩]),none⟩,po_ 68 (.fieldA 1 20 (.t 11)),po_ 69 (.load false 1 (.t 68)),so_ 70 (.app 20 20 23 (.t 67) (.t 69)),mv_ 6 70] [6]))
def AdX:AP := .seq (.ops [po_ 74 (.fieldA 1 1 (.t 1)),po_ 75 (.load false 1 (.t 74)),so_ 76 (.call 38 [.t 75]),mv_ 73 76,po_ 77 (.ext 0 (.t 73)),po_ 78 (.ext 1 (.t 73)),so_ 13 (.alloc (.agg [.arr 20 1 [.val (.int .u8 ((0:Nat):Int)),.val (.int .u8 ((0:Nat):Int)),.val (.int .u8 ((0:Nat):Int)),.val (.int .u8 ((0:Nat):Int)),.val (.int .u8 ((0:Nat):Int)),.val (.int .u8 ((0:Nat):Int)),.val (.int .u8 ((0:Nat):Int)),.val (.int .u8 ((0:Nat):Int)),.val (.int .u8 ((0:Nat):Int)),.val (.int .u8 ((0:Nat):Int)),.val (.int .u8 ((0:Nat):Int)),.val (.int .u8 ((0:Nat):Int)),.val (.int .u8 ((0:Nat):Int)),.val (.int .u8 ((0:Nat):Int)),.val (.int .u8 ((0:Nat):Int)),.val (.int .u8 ((0:Nat):Int)),.val (.int .u8 ((0:Nat):Int)),.val (.int .u8 ((0:Nat):Int)),.val (.int .u8 ((0:Nat):Int)),.val (.int .u8 ((0:Nat):Int))],.val (.int .i64 ((0:Nat):Int)),.val (.string (str [])),.agg [.val (.string (str [])),.val (.string (str [])),.val (.int .i64 ((0:Nat):Int)),.val (.int .i64 ((0:Nat):Int))],.val (.string (str []))])),⟨none,.s (.store 27 (.t 13) (.t 77)),none⟩,mv_ 14 78] [13,14])
 (.seq (.seq (.ops [mv_ 79 14,po_ 80 (.eqN 1 (.t 79) (.c .nilIface) true)] [13,14,80])
 (.cond (.t 80)
 (.seq (.ops [mv_ 81 14,po_ 2 (.mov (.c (.slice none 0 0))),mv_ 3 81] [2,3])
  (.ret))
 (.skip)))
 (.ops [po_ 82 (.fieldA 0 0 (.t 13)),po_ 83 (.load true 20 (.t 82)),⟨some 84,.s (.bslice 20 1 (.arr 20 1 [.val (.int .u8 ((0:Nat):Int)),.val (.int .u8 ((0:Nat):Int)),.val (.int .u8 ((0:Nat):Int)),.val (.int .u8 ((0:Nat):Int)),.val (.int .u8 ((0:Nat):Int)),.val (.int .u8 ((0:Nat):Int)),.val (.int .u8 ((0:Nat):Int)),.val (.int .u8 ((0:Nat):Int)),.val (.int .u8 ((0:Nat):Int)),.val (.int .u8 ((0:Nat):Int)),.val (.int .u8 ((0:Nat):Int)),.val (.int .u8 ((0:Nat):Int)),.val (.int .u8 ((0:Nat):Int)),.val (.int .u8 ((0:Nat):Int)),.val (.int .u8 ((0:Nat):Int)),.val (.int .u8 ((0:Nat):Int)),.val (.int .u8 ((0:Nat):Int)),.val (.int .u8 ((0:Nat):Int)),.val (.int .u8 ((0:Nat):Int)),.val (.int .u8 ((0:Nat):Int))]) [⟨0,.t 83⟩]),none⟩,mv_ 6 84] [6]))
def Ad7:AP := .cond (.t 71)
 AdX
 (.skip)
def AfB:AP := .seq (.ops [po_ 72 (.bin 24 .eql (.t 30) (ci_ 4)),mv_ 71 72] [1,6,71])
 Ad7
def Aby:AP := .cond (.t 54)
 AfD
 AfB
def AaB:AP := .seq (.ops [po_ 55 (.bin 24 .eql (.t 30) (ci_ 1)),mv_ 54 55] [1,6,30,54])
 Aby
def Abi:AP := .cond (.t 31)
 Adn
 AaB
def AaJ:AP := .block 0 (.seq (.ops [po_ 32 (.bin 24 .eql (.t 30) (ci_ 2)),mv_ 31 32] [1,6,30,31])
 Abi)
def Abv:AP := .seq (.ops [mv_ 85 6,mv_ 2 85,po_ 3 (.mov (.c .nilIface))] [2,3])
 (.ret)
def AaG:AP := .seq (.seq (.ops [po_ 29 (.fieldA 0 0 (.t 1)),po_ 30 (.load false 1 (.t 29))] [1,6,30])
 AaJ)
 Abv
def AaQ:AP := .seq (.ops [po_ 6 (.mov (.c (.slice none 0 0)))] [1,6])
 AaG
def AaV:AP := .seq (.seq (.ops [po_ 24 (.fieldA 1 1 (.t 1)),po_ 25 (.load false 1 (.t 24)),po_ 26 (.lenV (.t 25)),po_ 27 (.bin 3 .gtr (.t 26) (ci_ 100000))] [1,27])
 (.cond (.t 27)
 (.seq (.ops [po_ 28 (.iface 34 (ci_ 11)),po_ 2 (.mov (.c (.slice none 0 0))),mv_ 3 28] [2,3])
  (.ret))
 (.skip)))
 AaQ
def AbG:AP := .seq (.seq (.ops [po_ 16 (.fieldA 0 0 (.t 1)),po_ 17 (.load false 1 (.t 16)),so_ 18 (.call 25 [.t 17]),mv_ 15 18,po_ 19 (.ext 0 (.t 15)),po_ 20 (.ext 1 (.t 15)),mv_ 4 19,mv_ 5 20] [1,5])
 (.seq (.ops [mv_ 21 5,po_ 22 (.un .not (.t 21))] [1,22])
 (.cond (.t 22)
 (.seq (.ops [po_ 23 (.iface 34 (ci_ 20)),po_ 2 (.mov (.c (.slice none 0 0))),mv_ 3 23] [2,3])
  (.ret))
 (.skip))))
 AaV
def Ana:AP := .seq (.ops [so_ 1 (.box (.t 0)),po_ 2 (.mov (.c (.slice none 0 0))),po_ 3 (.mov (.c .nilIface))] [1])
 AbG
def Anj:List VR:=[.tmp 2,.tmp 3]
theorem Awu:Tryz.f22.body.bind (trC Tryz.prog Tryz.f22.ntmps)=some (er Ana):=by kernel_rfl
theorem Awt:trR Tryz.prog Tryz.f22.results.toList=some Anj:=by kernel_rfl
def Z9:=Ac AfQ.eq_1
def AoT:=Ac AeH.eq_1
def Apf:=Ac Adg.eq_1
def YS:=Ac Aey.eq_1
def ZJ:=Ac Adn.eq_1
def YQ:=Ac AfD.eq_1
def YP:=Ac AdX.eq_1
def OB:=Ac Ad7.eq_1
def OC:=Ac AfB.eq_1
def Hf:=Ac Aby.eq_1
def Hz:=Ac AaB.eq_1
def EG:=Ac Abi.eq_1
def EE:=Ac AaJ.eq_1
def KO:=Ac Abv.eq_1
def EF:=Ac AaG.eq_1
def ED:=Ac AaQ.eq_1
def Ee:=Ac AaV.eq_1
def AmG:=Ac AbG.eq_1
def AtW:=Ac Ana.eq_1
theorem EO {K:TV→Prop} {e:Env} {H:List Ob}:res Anj e H K=res [.tmp 2,.tmp 3] e H K:=Ap rfl
def Av4:=ES 86 Tryz.func22 Awu Awt rfl
def AkC:AP := .seq (.seq (.ops [mv_ 34 9,mv_ 35 7,po_ 36 (.lenV (.t 35)),po_ 37 (.bin 3 .lss (.t 34) (.t 36))] [6,7,9,37])
 (.cond (.t 37)
 (.skip)
 (.exit 1)))
 (.seq (.block 2 (.ops [mv_ 40 6,mv_ 41 7,mv_ 42 9,po_ 43 (.idxA 22 (.t 41) (.t 42)),po_ 44 (.fieldA 2 2 (.t 43)),po_ 45 (.load true 20 (.t 44)),⟨some 46,.s (.bslice 20 1 (.arr 20 1 [.val (.int .u8 ((0:Nat):Int)),.val (.int .u8 ((0:Nat):Int)),.val (.int .u8 ((0:Nat):Int)),.val (.int .u8 ((0:Nat):Int)),.val (.int .u8 ((0:Nat):Int)),.val (.int .u8 ((0:Nat):Int)),.val (.int .u8 ((0:Nat):Int)),.val (.int .u8 ((0:Nat):Int)),.val (.int .u8 ((0:Nat):Int)),.val (.int .u8 ((0:Nat):Int)),.val (.int .u8 ((0:Nat):Int)),.val (.int .u8 ((0:Nat):Int)),.val (.int .u8 ((0:Nat):Int)),.val (.int .u8 ((0:Nat):Int)),.val (.int .u8 ((0:Nat):Int)),.val (.int .u8 ((0:Nat):Int)),.val (.int .u8 ((0:Nat):Int)),.val (.int .u8 ((0:Nat):Int)),.val (.int .u8 ((0:Nat):Int)),.val (.int .u8 ((0:Nat):Int))]) [⟨0,.t 45⟩]),none⟩,so_ 47 (.app 20 20 22 (.t 40) (.t 46)),mv_ 6 47] [6,7,9]))
 (.ops [mv_ 38 9,po_ 39 (.bin 3 .add (.t 38) (ci_ 1)),mv_ 9 39] [6,7,9]))
def AjS:AP := .block 1 (.own 6 20 (.loop [6,7,9] AkC))
def AkV:AP := .seq (.ops [po_ 9 (.mov (ci_ 0))] [6,7,9])
 AjS
def AjC:AP := .seq (.seq (.ops [mv_ 32 8,po_ 33 (.un .not (.t 32))] [6,7,33])
 (.cond (.t 33)
 (.seq (.ops [po_ 2 (.mov (.c (.slice none 0 0))),po_ 3 (.mov (ci_ 21))] [2,3])
  (.ret))
 (.skip)))
 AkV
def Akw:AP := .seq (.ops [po_ 27 (.fieldA 1 1 (.t 1)),po_ 28 (.load false 1 (.t 27)),so_ 29 (.call 54 [.t 28]),mv_ 26 29,po_ 30 (.ext 0 (.t 26)),po_ 31 (.ext 1 (.t 26)),mv_ 7 30,mv_ 8 31] [6,7,8])
 AjC
def Akm:AP := .own 6 20 (.seq (.seq (.ops [mv_ 56 11,po_ 57 (.un .not (.t 56))] [6,10,57])
 (.cond (.t 57)
 (.seq (.ops [po_ 2 (.mov (.c (.slice none 0 0))),po_ 3 (.mov (ci_ 22))] [2,3])
  (.ret))
 (.skip)))
 (.seq (.ops [mv_ 58 6,po_ 59 (.fieldA 0 0 (.t 10)),po_ 60 (.load true 20 (.t 59)),⟨some 61,.s (.bslice 20 1 (.arr 20 1 [.val (.int .u8 ((0:Nat):Int)),.val (.int .u8 ((0:Nat):Int)),.val (.int .u8 ((0:Nat):Int)),.val (.int .u8 ((0:Nat):Int)),.val (.int .u8 ((0:Nat):Int)),.val (.int .u8 ((0:Nat):Int)),.val (.int .u8 ((0:Nat):Int)),.val (.int .u8 ((0:Nat):Int)),.val (.int .u8 ((0:Nat):Int)),.val (.int .u8 ((0:Nat):Int)),.val (.int .u8 ((0:Nat):Int)),.val (.int .u8 ((0:Nat):Int)),.val (.int .u8 ((0:Nat):Int)),.val (.int .u8 ((0:Nat):Int)),.val (.int .u8 ((0:Nat):Int)),.val (.int .u8 ((0:Nat):Int)),.val (.int .u8 ((0:Nat):Int)),.val (.int .u8 ((0:Nat):Int)),.val (.int .u8 ((0:Nat):Int)),.val (.int .u8 ((0:Nat):Int))]) [⟨0,.t 60⟩]),none⟩,so_ 62 (.app 20 20 22 (.t 58) (.t 61)),mv_ 6 62] [6,10])
 (.ops [mv_ 63 6,po_ 64 (.fieldA 1 20 (.t 10)),po_ 65 (.load false 1 (.t 64)),so_ 66 (.app 20 20 22 (.t 63) (.t 65)),mv_ 6 66] [6])))
def Akp:AP := .seq (.ops [po_ 51 (.fieldA 1 1 (.t 1)),po_ 52 (.load false 1 (.t 51)),so_ 53 (.call 44 [.t 52]),mv_ 50 53,po_ 54 (.ext 0 (.t 50)),po_ 55 (.ext 1 (.t 50)),so_ 10 (.alloc (.agg [.arr 20 1 [.val (.int .u8 ((0:Nat):Int)),.val (.int .u8 ((0:Nat):Int)),.val (.int .u8 ((0:Nat):Int)),.val (.int .u8 ((0:Nat):Int)),.val (.int .u8 ((0:Nat):Int)),.val (.int .u8 ((0:Nat):Int)),.val (.int .u8 ((0:Nat):Int)),.val (.int .u8 ((0:Nat):Int)),.val (.int .u8 ((0:Nat):Int)),.val (.int .u8 ((0:Nat):Int)),.val (.int .u8 ((0:Nat):Int)),.val (.int .u8 ((0:Nat):Int)),.val (.int .u8 ((0:Nat):Int)),.val (.int .u8 ((0:Nat):Int)),.val (.int .u8 ((0:Nat):Int)),.val (.int .u8 ((0:Nat):Int)),.val (.int .u8 ((0:Nat):Int)),.val (.int .u8 ((0:Nat):Int)),.val (.int .u8 ((0:Nat):Int)),.val (.int .u8 ((0:Nat):Int))],.val (.slice none 0 0),.agg [.val (.string (str [])),.val (.string (str [])),.val (.int .i64 ((0:Nat):Int)),.val (.int .i64 ((0:Nat):Int))],.agg [.val (.string (str [])),.val (.string (str [])),.val (.int .i64 ((0:Nat):Int)),.val (.int .i64 ((0:Nat):Int))],.val (.string (str []))])),⟨none,.s (.store 30 (.t 10) (.t 54)),none⟩,mv_ 11 55] [6,10,11])
 Akm
def Ald:AP := .own 6 20 (.seq (.ops [po_ 70 (.fieldA 1 1 (.t 1)),po_ 71 (.load false 1 (.t 70)),so_ 72 (.call 40 [.t 71]),mv_ 69 72,po_ 73 (.ext 0 (.t 69)),po_ 74 (.ext 1 (.t 69)),so_ 12 (.alloc (.agg [.arr 20 1 [.val (.int .u8 ((0:Nat):Int)),.val (.int .u8 ((0:Nat):Int)),.val (.int .u8 ((0:Nat):Int)),.val (.int .u8 ((0:Nat):Int)),.val (.int .u8 ((0:Nat):Int)),.val (.int .u8 ((0:Nat):Int)),.val (.int .u8 ((0:Nat):Int)),.val (.int .u8 ((0:Nat):Int)),.val (.int .u8 ((0:Nat):Int)),.val (.int .u8 ((0:Nat):Int)),.val (.int .u8 ((0:Nat):Int)),.val (.int .u8 ((0:Nat):Int)),.val (.int .u8 ((0:Nat):Int)),.val (.int .u8 ((0:Nat):Int)),.val (.int .u8 ((0:Nat):Int)),.val (.int .u8 ((0:Nat):Int)),.val (.int .u8 ((0:Nat):Int)),.val (.int .u8 ((0:Nat):Int)),.val (.int .u8 ((0:Nat):Int)),.val (.int .u8 ((0:Nat):Int))],.val (.int .i64 ((0:Nat):Int)),.val (.string (str [])),.agg [.val (.string (str [])),.val (.string (str [])),.val (.int .i64 ((0:Nat):Int)),.val (.int .i64 ((0:Nat):Int))],.val (.string (str []))])),⟨none,.s (.store 27 (.t 12) (.t 73)),none⟩,mv_ 13 74] [6,12,13])
 (.seq (.seq (.ops [mv_ 75 13,po_ 76 (.un .not (.t 75))] [6,12,76])
 (.cond (.t 76)
 (.seq (.ops [po_ 2 (.mov (.c (.slice none 0 0))),po_ 3 (.mov (ci_ 23))] [2,3])
  (.ret))
 (.skip)))
 (.ops [mv_ 77 6,po_ 78 (.fieldA 0 0 (.t 12)),po_ 79 (.load true 20 (.t 78)),⟨some 80,.s (.bslice 20 1 (.arr 20 1 [.val (.int .u8 ((0:Nat):Int)),.val (.int .u8 ((0:Nat):Int)),.val (.int .u8 ((0:Nat):Int)),.val (.int .u8 ((0:Nat):Int)),.val (.int .u8 ((0:Nat):Int)),.val (.int .u8 ((0:Nat):Int)),.val (.int .u8 ((0:Nat):Int)),.val (.int .u8 ((0:Nat):Int)),.val (.int .u8 ((0:Nat):Int)),.val (.int .u8 ((0:Nat):Int)),.val (.int .u8 ((0:Nat):Int)),.val (.int .u8 ((0:Nat):Int)),.val (.int .u8 ((0:Nat):Int)),.val (.int .u8 ((0:Nat):Int)),.val (.int .u8 ((0:Nat):Int)),.val (.int .u8 ((0:Nat):Int)),.val (.int .u8 ((0:Nat):Int)),.val (.int .u8 ((0:Nat):Int)),.val (.int .u8 ((0:Nat):Int)),.val (.int .u8 ((0:Nat):Int))]) [⟨0,.t 79⟩]),none⟩,so_ 81 (.app 20 20 22 (.t 77) (.t 80)),mv_ 6 81] [6])))
def AjM:AP := .cond (.t 67)
 Ald
 (.skip)
def Ah8:AP := .seq (.ops [po_ 68 (.bin 3 .eql (.t 23) (ci_ 4)),mv_ 67 68] [1,6,67])
 AjM
def Aix:AP := .cond (.t 48)
 Akp
 Ah8
def Ah7:AP := .seq (.ops [po_ 49 (.bin 3 .eql (.t 23) (ci_ 1)),mv_ 48 49] [1,6,23,48])
 Aix
def Ah3:AP := .cond (.t 24)
 Akw
 Ah7
def Ail:AP := .block 0 (.seq (.ops [po_ 25 (.bin 3 .eql (.t 23) (ci_ 2)),mv_ 24 25] [1,6,23,24])
 Ah3)
def Ah9:AP := .seq (.ops [mv_ 82 6,mv_ 2 82,po_ 3 (.mov (ci_ 0))] [2,3])
 (.ret)
def AhM:AP := .seq (.seq (.ops [po_ 22 (.fieldA 0 0 (.t 1)),po_ 23 (.load false 1 (.t 22))] [1,6,23])
 Ail)
 Ah9
def Aiz:AP := .seq (.ops [po_ 6 (.mov (.c (.slice none 0 0)))] [1,6])
 AhM
def AhG:AP := .seq (.seq (.ops [mv_ 19 5,po_ 20 (.bin 3 .neq (.t 19) (ci_ 0))] [1,5,20])
 (.cond (.t 20)
 (.seq (.ops [mv_ 21 5,po_ 2 (.mov (.c (.slice none 0 0))),mv_ 3 21] [2,3])
  (.ret))
 (.skip)))
 Aiz
def AhT:AP := .seq (.ops [po_ 15 (.load true 2 (.t 1)),so_ 16 (.call 55 [.t 15]),mv_ 14 16,po_ 17 (.ext 0 (.t 14)),po_ 18 (.ext 1 (.t 14)),mv_ 4 17,mv_ 5 18] [1,5])
 AhG
def Atb:AP := .seq (.ops [so_ 1 (.box (.t 0)),po_ 2 (.mov (.c (.slice none 0 0))),po_ 3 (.mov (ci_ 0))] [1])
 AhT
def Atl:List VR:=[.tmp 2,.tmp 3]
theorem AzN:Tryz.f24.body.bind (trC Tryz.prog Tryz.f24.ntmps)=some (er Atb):=by kernel_rfl
theorem Az9:trR Tryz.prog Tryz.f24.results.toList=some Atl:=by kernel_rfl
def AfU:=Ac AkC.eq_1
def AsR:=Ac AjS.eq_1
def AsL:=Ac AkV.eq_1
def Adr:=Ac AjC.eq_1
def AdU:=Ac Akw.eq_1
def AeD:=Ac Akm.eq_1
def Aep:=Ac Akp.eq_1
def Aeo:=Ac Ald.eq_1
def TL:=Ac AjM.eq_1
def P8:=Ac Ah8.eq_1
def Jz:=Ac Aix.eq_1
def Jv:=Ac Ah7.eq_1
def F7:=Ac Ah3.eq_1
def F8:=Ac Ail.eq_1
def MG:=Ac Ah9.eq_1
def FZ:=Ac AhM.eq_1
def F5:=Ac Aiz.eq_1
def Es:=Ac AhG.eq_1
def Arq:=Ac AhT.eq_1
def AwJ:=Ac Atb.eq_1
theorem Gs {K:TV→Prop} {e:Env} {H:List Ob}:res Atl e H K=res [.tmp 2,.tmp 3] e H K:=Ap rfl
def Ayz:=ES 83 Tryz.func24 AzN Az9 rfl
def Vx:AP := .seq (.block 1 (.seq (.draw 4 [mv_ 62 4,mv_ 63 9,po_ 64 (.idxA 20 (.t 62) (.t 63)),po_ 65 (.load true 20 (.t 64)),mv_ 66 7,mv_ 67 9,po_ 68 (.idxA 20 (.t 66) (.t 67)),po_ 69 (.load true 20 (.t 68)),po_ 70 (.gen (.eqA 20 true) [.t 65,.t 69])] [4,7,9,70])
 (.cond (.t 70)
 (.seq (.ops [po_ 2 (.mov (.c (.bool false)))] [2])
  (.ret))
 (.skip))))
 (.ops [mv_ 60 9,po_ 61 (.bin 3 .add (.t 60) (ci_ 1)),mv_ 9 61] [4,7,9])
def Vl:AP := .seq (.seq (.ops [mv_ 56 9,mv_ 57 4,po_ 58 (.lenV (.t 57)),po_ 59 (.bin 3 .lss (.t 56) (.t 58))] [4,7,9,59])
 (.cond (.t 59)
 (.skip)
 (.exit 0)))
 Vx
def VI:AP := .block 0 (.loop [4,7,9] Vl)
def Vg:AP := .seq (.ops [po_ 2 (.mov (.c (.bool true)))] [2])
 (.ret)
def UF:AP := .seq (.seq (.ops [po_ 9 (.mov (ci_ 0))] [4,7,9])
 VI)
 Vg
def UB:AP := .seq (.seq (.ops [mv_ 39 3,so_ 40 (.call 8 [.t 39]),mv_ 41 8,po_ 42 (.bin 3 .neq (.t 40) (.t 41)),mv_ 43 42,⟨some 44,.p (.mov (.t 5)),some ⟨43,false⟩⟩,⟨some 45,.s (.call 8 [.t 44]),some ⟨43,false⟩⟩,⟨some 46,.p (.mov (.t 8)),some ⟨43,false⟩⟩,⟨some 47,.p (.bin 3 .neq (.t 45) (.t 46)),some ⟨43,false⟩⟩,po_ 48 (.pick (.t 43) (.c (.bool true)) (.t 47)),mv_ 49 48,⟨some 50,.p (.mov (.t 4)),some ⟨49,false⟩⟩,⟨some 51,.p (.lenV (.t 50)),some ⟨49,false⟩⟩,⟨some 52,.p (.mov (.t 7)),some ⟨49,false⟩⟩,⟨some 53,.p (.lenV (.t 52)),some ⟨49,false⟩⟩,⟨some 54,.p (.bin 3 .neq (.t 51) (.t 53)),some ⟨49,false⟩⟩,po_ 55 (.pick (.t 49) (.c (.bool true)) (.t 54))] [4,7,55])
 (.cond (.t 55)
 (.seq (.ops [po_ 2 (.mov (.c (.bool false)))] [2])
  (.ret))
 (.skip)))
 UF
def UX:AP := .seq (.ops [po_ 35 (.load true 2 (.t 6)),so_ 36 (.call 24 [.t 35]),mv_ 34 36,po_ 37 (.ext 0 (.t 34)),po_ 38 (.ext 1 (.t 34)),mv_ 7 37,mv_ 8 38] [3,4,5,7,8])
 UB
def VK:AP := .seq (.ops [po_ 32 (.load true 2 (.t 1)),so_ 33 (.call 23 [.t 32]),so_ 6 (.alloc (.agg [.val (.int .i64 ((0:Nat):Int)),.val (.slice none 0 0)])),⟨none,.s (.store 2 (.t 6) (.t 33)),none⟩] [3,4,5,6])
 UX
def UJ:AP := .seq (.ops [po_ 28 (.load true 2 (.t 1)),so_ 29 (.call 22 [.t 28]),mv_ 27 29,po_ 30 (.ext 0 (.t 27)),po_ 31 (.ext 1 (.t 27)),mv_ 4 30,mv_ 5 31] [1,3,4,5])
 VK
def Mc:AP := .seq (.ops [po_ 25 (.load true 2 (.t 1)),so_ 26 (.call 21 [.t 25]),mv_ 3 26] [1,3])
 UJ
def SI:AP := .seq (.seq (.ops [po_ 10 (.fieldA 1 1 (.t 1)),po_ 11 (.load false 1 (.t 10)),po_ 12 (.lenV (.t 11)),po_ 13 (.bin 3 .gtr (.t 12) (ci_ 120000)),mv_ 14 13,⟨some 15,.p (.fieldA 0 0 (.t 1)),some ⟨14,false⟩⟩,⟨some 16,.p (.load false 1 (.t 15)),some ⟨14,false⟩⟩,⟨some 17,.p (.bin 24 .eql (.t 16) (ci_ 2)),some ⟨14,false⟩⟩,⟨some 18,.p (.mov (.t 17)),some ⟨14,false⟩⟩,⟨some 19,.p (.fieldA 1 1 (.t 1)),some ⟨18,true⟩⟩,⟨some 20,.p (.load false 1 (.t 19)),some ⟨18,true⟩⟩,⟨some 21,.p (.lenV (.t 20)),some ⟨18,true⟩⟩,⟨some 22,.p (.bin 3 .gtr (.t 21) (ci_ 8000)),some ⟨18,true⟩⟩,⟨some 23,.p (.pick (.t 18) (.t 22) (.c (.bool false))),some ⟨14,false⟩⟩,po_ 24 (.pick (.t 14) (.c (.bool true)) (.t 23))] [1,24])
 (.cond (.t 24)
 (.seq (.ops [po_ 2 (.mov (.c (.bool true)))] [2])
  (.ret))
 (.skip)))
 Mc
def Abw:AP := .seq (.ops [so_ 1 (.box (.t 0)),po_ 2 (.mov (.c (.bool false)))] [1])
 SI
def Qp:List VR:=[.tmp 2]
theorem ArT:Tryz.f6.body.bind (trC Tryz.prog Tryz.f6.ntmps)=some (er Abw):=by kernel_rfl
theorem Ar2:trR Tryz.prog Tryz.f6.results.toList=some Qp:=by kernel_rfl
def Agu:=Ac Vx.eq_1
def Pn:=Ac Vl.eq_1
def Agx:=Ac VI.eq_1
def Ahg:=Ac Vg.eq_1
def Ahc:=Ac UF.eq_1
def Ahj:=Ac UB.eq_1
def Ag8:=Ac UX.eq_1
def AgT:=Ac VK.eq_1
def Agn:=Ac UJ.eq_1
def AfY:=Ac Mc.eq_1
def GN:=Ac SI.eq_1
def KJ:=Ac Abw.eq_1
theorem Nz {K:TV→Prop} {e:Env} {H:List Ob}:res Qp e H K=res [.tmp 2] e H K:=Ap rfl
def Ape:=ES 71 Tryz.func6 ArT Ar2 rfl
def ArQ:AP := .seq (.ops [so_ 1 (.box (.t 0)),so_ 2 (.alloc (.agg [.val (.int .i64 ((0:Nat):Int)),.val (.slice none 0 0)]))] [1,2])
 (.seq (.ops [po_ 3 (.fieldA 0 0 (.t 1)),po_ 4 (.load false 1 (.t 3)),po_ 5 (.fieldA 1 1 (.t 1)),po_ 6 (.load false 1 (.t 5)),⟨some 7,.p (.build [.val (.int .i64 ((0:Nat):Int)),.val (.slice none 0 0)] [1,1] [⟨0,.t 4⟩,⟨1,.t 6⟩]),none⟩,⟨none,.s (.store 2 (.t 2) (.t 7)),none⟩] [2])
 (.ret))
def Arn:List VR:=[.cell 2 true 2]
theorem AxV:Tryz.f23.body.bind (trC Tryz.prog Tryz.f23.ntmps)=some (er ArQ):=by kernel_rfl
theorem Ayr:trR Tryz.prog Tryz.f23.results.toList=some Arn:=by kernel_rfl
def AuQ:=Ac ArQ.eq_1
theorem Avh {K:TV→Prop} {e:Env} {H:List Ob}:res Arn e H K=res [.cell 2 true 2] e H K:=Ap rfl
def AwE:=ES 8 Tryz.func23 AxV Ayr rfl
end
section
open Go.RowKit
variable [Cc] [AX] [Ba] [Bd] [GH] [BI]
inductive Lnk (k:Int) (d:List UInt8):List (List UInt8)→Int→Prop
 | kind:EK k=none→Lnk k d [] 20
 | long:EK k≠none→100000<d.length→Lnk k d [] 11
 | tree (l:List En):k=2→d.length≤100000→U2 l d→Lnk k d (l.map (·.id)) 0
 | treeN:k=2→d.length≤100000→(∀ l,¬ U2 l d)→Lnk k d [] 21
 | com (c:Bk7):k=1→d.length≤100000→Awj c→cmB c=d→Lnk k d (c.tree::c.pars) 0
 | comN:k=1→d.length≤100000→(∀ c,Awj c→cmB c≠d)→Lnk k d [] 22
 | tag (t:Bl7):k=4→d.length≤100000→ACZ t→tgB t=d→Lnk k d [t.id] 0
 | tagN:k=4→d.length≤100000→(∀ t,ACZ t→tgB t≠d)→Lnk k d [] 23
 | blob:k=3→d.length≤100000→Lnk k d [] 0
theorem Lnk.some (k:Int) (d:List UInt8):∃ ids e,Lnk k d ids e:=by
 cases hk:EK k with
 | none=>exact ⟨_,_,.kind hk⟩
 | some n =>
  have hkn:EK k≠none:=by rw [hk]; simp
  by_cases hd:d.length≤100000
  case neg=>exact ⟨_,_,.long hkn (by omega)⟩
  obtain ⟨h1,h2,_⟩:=Yo hk
  obtain h | h | h | h:k=1∨k=2∨k=3∨k=4:=by omega
  ·by_cases hc:∃ c,Awj c∧cmB c=d
   ·obtain ⟨c,a,b⟩:=hc; exact ⟨_,_,.com c h hd a b⟩
   ·exact ⟨_,_,.comN h hd fun c a b=>hc ⟨c,a,b⟩⟩
  ·by_cases hc:∃ l,U2 l d
   ·obtain ⟨l,a⟩:=hc; exact ⟨_,_,.tree l h hd a⟩
   ·exact ⟨_,_,.treeN h hd fun l a=>hc ⟨l,a⟩⟩
  ·exact ⟨_,_,.blob h hd⟩
  ·by_cases hc:∃ t,ACZ t∧tgB t=d
   ·obtain ⟨c,a,b⟩:=hc; exact ⟨_,_,.tag c h hd a b⟩
   ·exact ⟨_,_,.tagN h hd fun c a b=>hc ⟨c,a,b⟩⟩
def LkY (ids:List (List UInt8)) (Y:TV):Prop:=Y = .sl 20 (ids.map Lp)∨(ids=[]∧Y = .val (.slice none 0 0))
def BpJ (e:Int):TV:=if e=0 then .val .nilIface else eno e
theorem BuV (k:Int) (d:List UInt8) (h1 : -9223372036854775808≤k) (h2:k≤9223372036854775807) (hd:d.length≤200000) {ids:List (List UInt8)} {e:Int} (h:Lnk k d ids e):Sr Tryz.prog 22 [.agg [i64 k,slB d]] (fun r=>∃ Y,LkY ids Y∧r = .tup [Y,BpJ e]):=by
 refine BD.toFreshV (Av4 (by simp) ?_)
 simp -dsimp (disch:=first | assumption | omega | (simp only [Aa];try omega)) only [↓AB,Aj,AA,Az,eq_self,Nat.reduceEqDiff,↓reduceIte,↓AtW,↓AmG]
 refine (BjK k h1 h2).calls rfl fun r hr => ?_
 cases h with
 | kind hk =>
  rw [hr.2 hk]
  simp -dsimp (disch:=first | assumption | omega | (simp only [Aa];try omega)) only [↓AB,Aj,AA,Az,eq_self,Nat.reduceEqDiff,↓reduceIte,↓EO]
  exact ⟨_,.inr ⟨rfl,rfl⟩,rfl⟩
 | long hk hl =>
  obtain ⟨n,hn⟩:∃ n,EK k=some n:=by cases h:EK k with
   | none=>exact absurd h hk
   | some n=>exact ⟨n,rfl⟩
  rw [hr.1 n hn]
  simp -dsimp (disch:=first | assumption | omega | (simp only [Aa];try omega)) only [↓AB,Aj,AA,Az,eq_self,Nat.reduceEqDiff,↓reduceIte,Nat.reduceAdd,↓Ee,↓EO]
  exact ⟨_,.inr ⟨rfl,rfl⟩,rfl⟩
 | blob hk hl =>
  subst hk
  rw [hr.1 _ rfl]
  simp -dsimp (disch:=first | assumption | omega | (simp only [Aa];try omega)) only [↓AB,Aj,AA,Az,eq_self,Nat.reduceEqDiff,↓reduceIte,Nat.reduceAdd,↓Ee,↓ED,↓EF,↓EE,↓EG,↓Hz,↓Hf,↓OC,↓OB,↓KO,↓EO]
  exact ⟨_,.inr ⟨rfl,rfl⟩,rfl⟩
 | tag t hk hl a b =>
  subst hk
  rw [hr.1 _ rfl]
  have h20:(t.id.map by8).length=20:=by rw [List.length_map]; exact a.1
  simp -dsimp (disch:=first | assumption | omega | (simp only [Aa];try omega)) only [↓AB,Aj,AA,Az,eq_self,Nat.reduceEqDiff,↓reduceIte,Nat.reduceAdd,↓Ee,↓ED,↓EF,↓EE,↓EG,↓Hz,↓Hf,↓OC,↓OB,↓YP]
  refine (ACx d (by omega)).calls rfl fun r hr => ?_
  rw [hr.1 t a b]
  simp -dsimp (disch:=first | assumption | omega | (simp only [Aa];try omega)) only [↓AB,Aj,AA,Az,eq_self,Nat.reduceEqDiff,↓reduceIte,Nat.reduceAdd,Nat.reduceLeDiff,Atf,↓KO,↓EO]
  rw [if_pos (by have:=Abd [t.id]; exact this)]
  exact ⟨_,.inl rfl,rfl⟩
 | tagN hk hl a =>
  subst hk
  rw [hr.1 _ rfl]
  simp -dsimp (disch:=first | assumption | omega | (simp only [Aa];try omega)) only [↓AB,Aj,AA,Az,eq_self,Nat.reduceEqDiff,↓reduceIte,Nat.reduceAdd,↓Ee,↓ED,↓EF,↓EE,↓EG,↓Hz,↓Hf,↓OC,↓OB,↓YP]
  refine (ACx d (by omega)).calls rfl fun r hr => ?_
  rw [hr.2 a]
  simp -dsimp (disch:=first | assumption | omega | (simp only [Aa];try omega)) only [↓AB,Aj,AA,Az,eq_self,Nat.reduceEqDiff,↓reduceIte,Nat.reduceAdd,↓EO]
  exact ⟨_,.inr ⟨rfl,rfl⟩,rfl⟩
 | com c hk hl a b =>
  subst hk
  rw [hr.1 _ rfl]
  have h20:(c.tree.map by8).length=20:=by rw [List.length_map]; exact a.1
  simp -dsimp (disch:=first | assumption | omega | (simp only [Aa];try omega)) only [↓AB,Aj,AA,Az,eq_self,Nat.reduceEqDiff,↓reduceIte,Nat.reduceAdd,↓Ee,↓ED,↓EF,↓EE,↓EG,↓Hz,↓Hf,↓YQ]
  refine (AuS d (by omega)).pure.calls rfl fun r hr => ?_
  rw [hr.1 c a b]
  have hp8:=a.2.2.1
  have hpl:(c.pars.map Lp).length=c.pars.length:=List.length_map ..
  simp -dsimp (disch:=first | assumption | omega | (simp only [Aa];try omega)) only [↓AB,Aj,AA,Az,eq_self,Nat.reduceEqDiff,↓reduceIte,Nat.reduceAdd,Nat.reduceLeDiff,Atf,hpl,↓KO,↓EO]
  rw [if_pos (by have:=Abd (c.tree::c.pars); exact this)]
  exact ⟨_,.inl rfl,rfl⟩
 | comN hk hl a =>
  subst hk
  rw [hr.1 _ rfl]
  simp -dsimp (disch:=first | assumption | omega | (simp only [Aa];try omega)) only [↓AB,Aj,AA,Az,eq_self,Nat.reduceEqDiff,↓reduceIte,Nat.reduceAdd,↓Ee,↓ED,↓EF,↓EE,↓EG,↓Hz,↓Hf,↓YQ]
  refine (AuS d (by omega)).pure.calls rfl fun r hr => ?_
  rw [hr.2 a]
  simp -dsimp (disch:=first | assumption | omega | (simp only [Aa];try omega)) only [↓AB,Aj,AA,Az,eq_self,Nat.reduceEqDiff,↓reduceIte,Nat.reduceAdd,↓EO]
  exact ⟨_,.inr ⟨rfl,rfl⟩,rfl⟩
 | treeN hk hl a =>
  subst hk
  rw [hr.1 _ rfl]
  simp -dsimp (disch:=first | assumption | omega | (simp only [Aa];try omega)) only [↓AB,Aj,AA,Az,eq_self,Nat.reduceEqDiff,↓reduceIte,Nat.reduceAdd,↓Ee,↓ED,↓EF,↓EE,↓EG,↓ZJ]
  refine (AzR d (by omega)).pure.calls rfl fun r hr => ?_
  rw [hr.2 a]
  simp -dsimp (disch:=first | assumption | omega | (simp only [Aa];try omega)) only [↓AB,Aj,AA,Az,eq_self,Nat.reduceEqDiff,↓reduceIte,↓YS,↓EO]
  exact ⟨_,.inr ⟨rfl,rfl⟩,rfl⟩
 | tree l hk hl a =>
  subst hk
  rw [hr.1 _ rfl]
  simp -dsimp (disch:=first | assumption | omega | (simp only [Aa];try omega)) only [↓AB,Aj,AA,Az,eq_self,Nat.reduceEqDiff,↓reduceIte,Nat.reduceAdd,↓Ee,↓ED,↓EF,↓EE,↓EG,↓ZJ]
  refine (AzR d (by omega)).pure.calls rfl fun r hr => ?_
  have hr1:r = .tup [.sl 22 (l.map enT),.val .nilIface]:=hr.1 l a
  subst hr1
  have h20:∀ x∈l,x.id.length=20:=fun x hx=>(a.1.2.1 x hx).2.2
  have hll:l.length≤2000:=a.1.1
  clear hr a
  simp -dsimp (disch:=first | assumption | omega | (simp only [Aa];try omega)) only [↓AB,Aj,AA,Az,eq_self,Nat.reduceEqDiff,↓reduceIte,↓YS,↓Apf,↓AoT]
  refine FU (fun q e H=>∃ (i v cp:Nat),q=l.length - i∧i≤l.length∧H[1]?=some (.obj v (.arr i 20 ((l.take i).map fun e:En=>Lp e.id)))∧e=[(6,.os 20 1 v [] 0 i cp),(42,.sl 22 (l.map enT)),(43,i64 (l.length:Int)),(44,i64 (i:Int))]) l.length ?_ ?_
  ·exact ⟨0,0,0,rfl,Nat.zero_le _,rfl,rfl⟩
  rintro q e H ⟨i,v,cp,rfl,hi,hk,rfl⟩
  have hkl:=(List.getElem?_eq_some_iff.1 hk).1
  have hwl:((l.take i).map fun e:En=>Lp e.id).length=i:=by rw [List.length_map,List.length_take,Nat.min_eq_left hi]
  have hwt:((l.take i).map fun e:En=>Lp e.id).take i=(l.take i).map fun e:En=>Lp e.id:=List.take_of_length_le (by omega)
  by_cases hil:i<l.length
  ·have hg:l[i]?=some l[i]:=List.getElem?_eq_getElem hil
   have hx20:=h20 _ (List.mem_of_getElem? hg)
   have hsn:((l.take (i+1)).map fun e:En=>Lp e.id)=((l.take i).map fun e:En=>Lp e.id)++[Lp l[i].id]:=by rw [List.take_succ_eq_append_getElem hil,List.map_append]; rfl
   generalize l[i]=x at *
   have hx:(x.id.map by8).length=20:=by rw [List.length_map]; exact hx20
   have hA:∀ T:List Ob,(H++T)[1]?=some (.obj v (.arr i 20 ((l.take i).map fun e:En=>Lp e.id))):=fun T=>by rw [List.getElem?_append_left hkl]; exact hk
   simp -dsimp (disch:=first | assumption | omega | (simp only [Aa];try omega)) only [↓AB,Aj,AA,Az,eq_self,Nat.reduceEqDiff,↓reduceIte,Nat.reduceAdd,Nat.reduceLeDiff,hg,hA,hwl,Atf,↓Z9]
   refine BQ (l.length - (i+1)) (by omega) (by simp) ⟨i+1,v+1,i+1,rfl,by omega,?_,rfl⟩
   rw [List.append_assoc,List.getElem?_append_left (by simp; omega),List.getElem?_set_self (by omega),hsn]
  ·have hi2:i=l.length:=by omega
   have htt:l.take i=l:=List.take_of_length_le (by omega)
   rw [htt] at hwl hwt hk
   simp -dsimp (disch:=first | assumption | omega | (simp only [Aa];try omega)) only [↓AB,Aj,AA,Az,eq_self,Nat.reduceEqDiff,↓reduceIte,hk,hwl,↓Z9,↓KO,↓EO]
   have hm:(l.map fun e:En=>Lp e.id)=(l.map (·.id)).map Lp:=by rw [List.map_map]; rfl
   rw [hm,if_pos (Abd _)]
   exact ⟨_,.inl rfl,rfl⟩
theorem Bk1 {ids:List (List UInt8)} {E x:TV} (h:∃ Y,LkY ids Y∧x = .tup [Y,E]):∃ x',x' = .tup [.sl 20 (ids.map Lp),E]∧∀ c w v,Rep c w x v→Rep c w x' v:=by
 obtain ⟨Y,hY,rfl⟩:=h
 refine ⟨_,rfl,fun c w v hv => ?_⟩
 rcases hY with rfl | ⟨rfl,rfl⟩
 ·exact hv
 ·exact Ax0.tup (.cons ADf (.cons AEv.refl .nil)) c w v hv
theorem BpN (k:Int) (d:List UInt8) (h1 : -9223372036854775808≤k) (h2:k≤9223372036854775807) (hd:d.length≤200000) {ids:List (List UInt8)} {e:Int} (h:Lnk k d ids e):CE Tryz.prog 22 [.agg [i64 k,slB d]] (fun r=>r = .tup [.sl 20 (ids.map Lp),BpJ e]) :=
 (BuV k d h1 h2 hd h).pure.conv fun x hx=>Bk1 hx
theorem Bu6 (k:Int) (d:List UInt8) (h1 : -9223372036854775808≤k) (h2:k≤9223372036854775807) (hd:d.length≤200000) {ids:List (List UInt8)} {e:Int} (h:Lnk k d ids e):CE Tryz.prog 21 [.agg [i64 k,slB d]] (fun r=>r=BpJ e):=by
 refine BD.toPureV (AuR (by simp) ?_)
 simp -dsimp (disch:=first | assumption | omega | (simp only [Aa];try omega)) only [↓AB,Aj,AA,Az,eq_self,Nat.reduceEqDiff,↓reduceIte,Nat.reduceAdd,↓AtQ]
 refine (BpN k d h1 h2 hd h).calls rfl fun r hr => ?_
 subst hr
 unfold BpJ
 by_cases he:e=0
 ·rw [if_pos he]
  simp -dsimp (disch:=first | assumption | omega | (simp only [Aa];try omega)) only [↓AB,Aj,AA,Az,eq_self,Nat.reduceEqDiff,↓reduceIte,↓AhH]
 ·rw [if_neg he]
  simp -dsimp (disch:=first | assumption | omega | (simp only [Aa];try omega)) only [↓AB,Aj,AA,Az,eq_self,Nat.reduceEqDiff,↓reduceIte,↓AhH]
end
section
open Go.RowKit
variable [Cc]
structure PR (b:List UInt8) (es:List En) (a:Nat):Prop where
 le:a≤b.length
 pre:∀ l,(∀ e∈l,AzA e)→l.flatMap enB=b→∃ l',l=es++l'∧l'.flatMap enB=b.drop a
 ids:∀ e∈es,e.id.length=20
 nms:∀ e∈es,e.name.length≤b.length
 few:es.length≤a
theorem PR.start (b:List UInt8):PR b [] 0:=⟨Nat.zero_le _,fun l _ h=>⟨l,rfl,h⟩,fun _ h=>(by cases h),fun _ h=>(by cases h),Nat.le_refl _⟩
theorem PR.no {b:List UInt8} {es:List En} {a:Nat} (h:PR b es a) (hlt:a<b.length) (hno:∀ x r,AzA x→enB x++r=b.drop a→False):∀ l,¬ U2 l b:=by
 rintro l ⟨⟨_,hl,_⟩,_,hb⟩
 obtain ⟨l',rfl,hl'⟩:=h.pre l hl hb
 cases l' with
 | nil =>
  have:=congrArg List.length hl'
  simp at this
  omega
 | cons x l'' =>
  rw [List.flatMap_cons] at hl'
  exact hno x _ (hl x (by simp)) hl'
theorem PR.step {b:List UInt8} {es:List En} {a a':Nat} {e:En} (h:PR b es a) (hlt:a<a') (hle:a'≤b.length) (hid:e.id.length=20) (hn:e.name.length≤b.length) (he:∀ x r,AzA x→enB x++r=b.drop a→x=e∧r=b.drop a'):PR b (es++[e]) a':=by
 obtain ⟨h1,h2,h3,h4,h5⟩:=h
 refine ⟨hle,fun l hl hb => ?_,fun y hy => ?_,fun y hy => ?_,by simp; omega⟩
 ·obtain ⟨l',rfl,hl'⟩:=h2 l hl hb
  cases l' with
  | nil =>
   have:=congrArg List.length hl'
   simp at this
   omega
  | cons x l'' =>
   rw [List.flatMap_cons] at hl'
   obtain ⟨rfl,k⟩:=he x _ (hl x (by simp)) hl'
   exact ⟨l'',by simp,k⟩
 ·rcases List.mem_append.1 hy with hy | hy
  ·exact h3 y hy
  ·rw [List.mem_singleton] at hy; subst hy; exact hid
 ·rcases List.mem_append.1 hy with hy | hy
  ·exact h4 y hy
  ·rw [List.mem_singleton] at hy; subst hy; exact hn
theorem PR.fin {b:List UInt8} {es l:List En} (h:PR b es b.length) (hl:U2 l b):l=es:=by
 obtain ⟨⟨_,ht,_⟩,_,hb⟩:=hl
 obtain ⟨l',rfl,hl'⟩:=h.pre l ht hb
 cases l' with
 | nil=>rw [List.append_nil]
 | cons x l'' =>
  exfalso
  rw [List.flatMap_cons] at hl'
  have:=congrArg List.length hl'
  simp [enB] at this
theorem AxX {c:UInt8} {n t F:List UInt8} {j:Nat} (h:n++c::t=F) (hn:c∉n) (hj:c∉F.take j) (hl:j≤F.length):j≤n.length∧(F[j]?=some c∨j=F.length→j=n.length):=by
 subst h
 have h1:j≤n.length:=by
  refine Nat.le_of_not_lt fun h=>hj ?_
  obtain ⟨k,hk⟩:∃ k,j - n.length=k+1:=⟨j - n.length - 1,by omega⟩
  rw [List.take_append,hk,List.take_succ_cons]
  simp
 refine ⟨h1,fun h => ?_⟩
 rcases h with h | h
 ·rcases Nat.lt_or_ge j n.length with h2 | h2
  ·rw [List.getElem?_append_left h2] at h
   exact absurd (List.mem_of_getElem? h) hn
  ·omega
 ·simp only [List.length_append,List.length_cons] at h; omega
theorem ADg (x:En) (r:List UInt8):enB x++r=AcS x.mode++32::(x.name++0::(x.id++r)):=by simp [enB]
theorem ByI {m:Int} (h:Aai m=true):32∉AcS m:=by rcases Nc h with h | h | h | h<;>rw [h]<;>decide
theorem BrB {m:Int} (h:Aai m=true):((AmY 0 (AcS m):Nat):Int)=m:=by rcases Nc h with h | h | h | h<;>rw [h]<;>rfl
theorem BqH {m:Int} {i:Nat} (h:Aai m=true) (hi:i<(AcS m).length):AmY 0 ((AcS m).take i)≤1048576∧∀ c,(AcS m)[i]?=some c→Ajq c=true:=by
 rcases Nc h with h | h | h | h<;>subst h
 all_goals
  have h6:i<6:=Nat.lt_of_lt_of_le hi (by decide)
  have:i=0∨i=1∨i=2∨i=3∨i=4∨i=5:=by omega
  rcases this with rfl | rfl | rfl | rfl | rfl | rfl<;>first | exact ⟨by decide,fun c hc=>by cases hc; rfl⟩ | (exfalso; revert hi; decide)
theorem BpS {x:En} {r D:List UInt8} {i:Nat} {c:UInt8} (hx:AzA x) (h:enB x++r=D) (hi:i≤D.length) (hn:32∉D.take i) (hc:D[i]?=some c) (h32:c≠32):Ajq c=true∧AmY 0 (D.take i)≤1048576:=by
 rw [ADg] at h
 obtain ⟨h1,h2⟩:=AxX h (ByI hx.1) hn hi
 have hlt:i<(AcS x.mode).length:=by
  rcases Nat.lt_or_ge i (AcS x.mode).length with h3 | h3
  ·exact h3
  ·have:i=(AcS x.mode).length:=by omega
   rw [←h,this,List.getElem?_append_right (Nat.le_refl _),Nat.sub_self] at hc
   exact absurd (Option.some.inj hc).symm h32
 obtain ⟨k1,k2⟩:=BqH hx.1 hlt
 rw [←h,List.getElem?_append_left hlt] at hc
 exact ⟨k2 c hc,by rw [←h,List.take_append_of_le_length h1]; exact k1⟩
theorem Blp {x:En} {r b:List UInt8} {a i j:Nat} (hx:AzA x) (h:enB x++r=b.drop a) (hi:i≤(b.drop a).length) (hn:32∉(b.drop a).take i) (he:(b.drop a)[i]?=some 32∨i=(b.drop a).length)
  (hj:j≤(b.drop (a+i+1)).length) (hm:0∉(b.drop (a+i+1)).take j) (hf:(b.drop (a+i+1))[j]?=some 0∨j=(b.drop (a+i+1)).length) :
  a+i+1+j+21≤b.length∧x=⟨((AmY 0 ((b.drop a).take i):Nat):Int),(b.drop (a+i+1)).take j,(b.drop (a+i+1+j+1)).take 20⟩∧r=b.drop (a+i+1+j+21):=by
 rw [ADg] at h
 obtain ⟨h1,h2⟩:=AxX h (ByI hx.1) hn hi
 have hi2:=h2 he
 have hF:b.drop (a+i+1)=x.name++0::(x.id++r):=by
  rw [Nat.add_assoc,←List.drop_drop,←h,hi2,←List.drop_drop,List.drop_left]; rfl
 have n0:=(Apy hx.2.1).2.2.2
 obtain ⟨h3,h4⟩:=AxX hF.symm n0 hm hj
 have hj2:=h4 hf
 have hG:b.drop (a+i+1+j+1)=x.id++r:=by
  rw [Nat.add_assoc (a+i+1),←List.drop_drop,hF,hj2,←List.drop_drop,List.drop_left]; rfl
 have hL:=congrArg List.length hG
 simp only [List.length_drop,List.length_append,hx.2.2] at hL
 refine ⟨by omega,?_,?_⟩
 ·obtain ⟨m,n,d⟩:=x
  simp only at *
  have e1:(b.drop a).take i=AcS m:=by rw [←h,hi2,List.take_left]
  have e2:(b.drop (a+i+1)).take j=n:=by rw [hF,hj2,List.take_left]
  have e3:(b.drop (a+i+1+j+1)).take 20=d:=by rw [hG,List.take_left' hx.2.2]
  rw [e1,e2,e3,BrB hx.1]
 ·rw [show a+i+1+j+21=a+i+1+j+1+20 by omega,←List.drop_drop,hG,List.drop_left' hx.2.2]
def BjU (b:List UInt8) (r:TV):Prop:=(∀ l,U2 l b→r = .tup [.sl 22 (l.map fun e:En => .agg [.val (.int .i64 e.mode),.val (.string (str e.name)),.arr 20 1 (e.id.map by8)]),tb true])∧((∀ l,¬ U2 l b)→r = .tup [.val (.slice none 0 0),tb false])
end
end Go.Proofs.YtliaddbbmnfioaaGreatDoor
