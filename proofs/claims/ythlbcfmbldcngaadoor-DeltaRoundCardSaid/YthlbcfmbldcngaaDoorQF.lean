/- What the proof of DeltaRoundCard stands on (texts merged; names shortened by a program): part 6. -/
import Derived.Test.YthlbcfmbldcngaaDoorQE
import Derived.Test.YthlbcfmbldcngaaDoorProg
import Derived.KernelRfl
import Derived.WalkKit
import Derived.Lib.BytesEntry
import Derived.Lib.Bytealg
import Derived.WalkSpells
import Derived.WalkLawsBesides
import Derived.Lib.Hide
import Derived.Deep.QuietTactic
import Derived.BigQuiet
import Derived.Deep.OwnRows
import Derived.Laws.CopyOwn
import Derived.Deep.RegionHeld3
import Derived.Deep.DrawnRows
import Derived.RowKitTokens
set_option linter.defProp false
set_option linter.unusedSectionVars false
set_option linter.unusedSimpArgs false
set_option linter.unusedVariables false
namespace Go.Proofs.YthlbcfmbldcngaaDoor
section
open Go.RowKit
variable [Bt6]
theorem BKz:∀ (f i n:Nat) (r:List UInt8),(szG f i n r true).2.2=true
 | 0,_,_,_=>rfl
 | f+1,i,n,r=>by
  rw [szG]
  have hb:(rdB r true).2.2=true:=by cases r<;>rfl
  rw [hb]
  split
  ·rfl
  ·exact BKz f _ _ _
abbrev B0b:TV := .val (.slice none 0 0)
abbrev BZ8:TV := .val .nilIface
def BKL (d:List UInt8) (x:TV):Prop:=x=match szs d with
 | none => .tup [i64 (0:Nat),i64 (0:Nat),eno (30:Nat)]
 | some (n,m,_) => .tup [i64 n,i64 m,BZ8]
theorem BWx (d:List UInt8) (hl:d.length≤1000000):Bzj Tryd.prog 10 [slB d] (BKL d):=by
 refine BtJ.toFreshV (BHj (by simp) ?_)
 simp -dsimp (disch:=first | assumption | omega) only [↓BtC,Bty,BtA,BtB,eq_self,↓reduceIte,reduceCtorEq,↓BAq]
 refine BRM hl rfl ?_
 have h1:=BDG 5 0 0 d false
 rcases hg:szG 5 0 0 d false with ⟨n,r,bad⟩
 rw [hg] at h1
 simp -dsimp (disch:=first | assumption | omega) only [↓BtC,Bty,BtA,BtB,eq_self,Nat.reduceEqDiff,↓reduceIte]
 refine BRM (by simpa using Nat.le_trans h1 hl) rfl ?_
 cases bad with
 | true =>
  have hb:=BKz 5 0 0 r
  simp -dsimp (disch:=first | assumption | omega) only [↓BtC,Bty,BtA,BtB,eq_self,Nat.reduceEqDiff,↓reduceIte,Nat.reduceAdd,↓BAq,hb]
  simp [BKL,szs,hg]
 | false =>
  rcases hg2:szG 5 0 0 r false with ⟨m,r2,bad2⟩
  cases bad2<;>simp -dsimp (disch:=first | assumption | omega) only [↓BtC,Bty,BtA,BtB,eq_self,Nat.reduceEqDiff,↓reduceIte,Nat.reduceAdd,↓BAq]<;>simp [BKL,szs,hg,hg2]
def BxC (base:List UInt8) (m:Nat) (out:List UInt8) (b:UInt8) (r:List UInt8):Option (List UInt8×List UInt8) :=
 if b.toNat=0 then none else
 if b.toNat<128 then (if b.toNat≤r.length∧out.length+b.toNat≤m then some (out++r.take b.toNat,r.drop b.toNat) else none) else
 match nbG 4 (b.toNat % 16) 0 0 r false with
 | (at_,r1,bad1)=>match nbG 4 (b.toNat / 16 % 8) 0 0 r1 bad1 with
  | (n,r2,bad2)=>if bad2=false∧at_+(if n=0 then 65536 else n)≤base.length∧out.length+(if n=0 then 65536 else n)≤m then
    some (out++(base.drop at_).take (if n=0 then 65536 else n),r2) else none
def BIr (base:List UInt8) (m:Nat):Nat→List UInt8→List UInt8→Option (List UInt8)
 | _,out,[]=>if out.length=m then some out else none
 | 0,_,_::_=>none
 | f+1,out,b::r=>match BxC base m out b r with
  | none=>none
  | some (out,r)=>BIr base m f out r
def BvO (base d:List UInt8):Option (List UInt8):=match szs d with
 | none=>none
 | some (n,m,r)=>if n=base.length∧m≤100000 then BIr base m r.length [] r else none
theorem BPF {r:List UInt8} {bad:Bool}:(rdB r bad).2.1.length≤r.length:=by cases r<;>simp [rdB]
theorem BBW:∀ (f w i n:Nat) (r:List UInt8) (bad:Bool),(nbG f w i n r bad).2.1.length≤r.length
 | 0,_,_,_,_,_=>Nat.le_refl _
 | f+1,w,i,n,r,bad=>by
  rw [nbG]; split
  ·exact Nat.le_trans (BBW f _ _ _ _ _) BPF
  ·exact BBW f _ _ _ _ _
theorem BKP:∀ (f w i n:Nat) (r:List UInt8) (bad:Bool),n<2 ^ (8*i)→(nbG f w i n r bad).1<2 ^ (8*(i+f))
 | 0,_,_,_,_,_,h=>h
 | f+1,w,i,n,r,bad,h=>by
  have hp:2 ^ (8*(i+1))=256*2 ^ (8*i):=by rw [show 8*(i+1)=8+8*i from by omega,Nat.pow_add]
  have hle:2 ^ (8*i)≤2 ^ (8*(i+1)):=Nat.pow_le_pow_right (by omega) (by omega)
  rw [nbG,show i+(f+1)=i+1+f from by omega]
  split
  ·refine BKP f _ _ _ _ _ ?_
   have hb:=BN3 r bad
   have hm:(rdB r bad).1*2 ^ (8*i)≤255*2 ^ (8*i):=Nat.mul_le_mul_right _ (by omega)
   exact Nat.or_lt_two_pow (by omega) (by omega)
  ·exact BKP f _ _ _ _ _ (by omega)
theorem BM1 {base:List UInt8} {m:Nat} {out:List UInt8} {b:UInt8} {r o2 r2:List UInt8} (h:BxC base m out b r=some (o2,r2)):r2.length≤r.length∧o2.length≤m:=by
 unfold BxC at h
 split at h
 ·cases h
 ·split at h
  ·split at h
   ·simp only [Option.some.injEq,Prod.mk.injEq] at h; obtain ⟨rfl,rfl⟩:=h; simp; omega
   ·cases h
  ·have k1:=BBW 4 (b.toNat % 16) 0 0 r false
   rcases g1:nbG 4 (b.toNat % 16) 0 0 r false with ⟨a,r1,b1⟩
   have k2:=BBW 4 (b.toNat / 16 % 8) 0 0 r1 b1
   rcases g2:nbG 4 (b.toNat / 16 % 8) 0 0 r1 b1 with ⟨n,r2',b2⟩
   rw [g1] at h k1; rw [g2] at k2
   have h':(if b2=false∧a+(if n=0 then 65536 else n)≤base.length∧out.length+(if n=0 then 65536 else n)≤m then some (out++(base.drop a).take (if n=0 then 65536 else n),r2') else none)=some (o2,r2):=by
    have e:(match nbG 4 (b.toNat / 16 % 8) 0 0 r1 b1 with
     | (n,r2,bad2)=>if bad2=false∧a+(if n=0 then 65536 else n)≤base.length∧out.length+(if n=0 then 65536 else n)≤m then some (out++(base.drop a).take (if n=0 then 65536 else n),r2) else none)=some (o2,r2):=h
    rw [g2] at e; exact e
   by_cases hc:b2=false∧a+(if n=0 then 65536 else n)≤base.length∧out.length+(if n=0 then 65536 else n)≤m
   ·rw [if_pos hc] at h'
    simp only [Option.some.injEq,Prod.mk.injEq] at h'; obtain ⟨rfl,rfl⟩:=h'
    simp only at k1 k2
    exact ⟨by omega,by simp; omega⟩
   ·rw [if_neg hc] at h'; cases h'
theorem BwK {base:List UInt8} {m:Nat}:∀ (f g:Nat) (out r:List UInt8),r.length≤f→r.length≤g→BIr base m f out r=BIr base m g out r
 | f,g,out,[],_,_=>by cases f<;>cases g<;>simp [BIr]
 | 0,_,_,_::_,h,_=>by simp at h
 | _,0,_,_::_,_,h=>by simp at h
 | f+1,g+1,out,b::r,h1,h2=>by
  rw [BIr,BIr]
  cases hs:BxC base m out b r with
  | none=>rfl
  | some x =>
   obtain ⟨o2,r2⟩:=x
   have:=(BM1 hs).1
   simp at h1 h2
   exact BwK f g o2 r2 (by omega) (by omega)
def BxM (base d:List UInt8) (x:TV):Prop:=x=match BvO base d with
 | none => .tup [B0b,eno (30:Nat)]
 | some out => .tup [slB out,BZ8]
set_option maxRecDepth 100000 in
theorem BXG:∀ b:Fin 256,(b.val &&& 128=if b.val<128 then 0 else 128):=by decide
theorem B0o {b:Nat} (h:b<256):b &&& 128=if b<128 then 0 else 128:=BXG ⟨b,h⟩
theorem b15:∀ b:Nat,b &&& 15=b % 16:=fun b=>by have:=Nat.and_two_pow_sub_one_eq_mod b 4; simpa using this
theorem b7:∀ b:Nat,b &&& 7=b % 8:=fun b=>by have:=Nat.and_two_pow_sub_one_eq_mod b 3; simpa using this
theorem BP8 (base d:List UInt8) (hl:d.length≤1000000) (hb:base.length≤1000000):Bzj Tryd.prog 8 [slB base,slB d] (BxM base d):=by
 refine BtJ.toFreshV (BHa (by simp) ?_)
 simp -dsimp (disch:=first | assumption | omega) only [↓BtC,Bty,BtA,BtB,eq_self,Nat.reduceEqDiff,↓reduceIte,Nat.reduceAdd,reduceCtorEq,↓BtF]
 refine BRM hl rfl ?_
 have h1:=BDG 5 0 0 d false
 rcases hg:szG 5 0 0 d false with ⟨n,r,bad⟩
 rw [hg] at h1
 simp -dsimp (disch:=first | assumption | omega) only [↓BtC,Bty,BtA,BtB,eq_self,Nat.reduceEqDiff,↓reduceIte,reduceCtorEq]
 refine BRM (by simpa using Nat.le_trans h1 hl) rfl ?_
 cases bad with
 | true =>
  have hb:=BKz 5 0 0 r
  simp -dsimp (disch:=first | assumption | omega) only [↓BtC,Bty,BtA,BtB,eq_self,Nat.reduceEqDiff,↓reduceIte,Nat.reduceAdd,reduceCtorEq,↓BtF,hb]
  simp [BxM,BvO,szs,hg]
 | false =>
  have h2:=BDG 5 0 0 r false
  rcases hg2:szG 5 0 0 r false with ⟨m,r2,bad2⟩
  rw [hg2] at h2
  cases bad2 with
  | true =>
   simp -dsimp (disch:=first | assumption | omega) only [↓BtC,Bty,BtA,BtB,eq_self,Nat.reduceEqDiff,↓reduceIte,Nat.reduceAdd,reduceCtorEq,↓BtF]
   simp [BxM,BvO,szs,hg,hg2]
  | false =>
   simp only at h1 h2
   simp -dsimp (disch:=first | assumption | omega) only [↓BtC,Bty,BtA,BtB,eq_self,Nat.reduceEqDiff,↓reduceIte,Nat.reduceAdd,reduceCtorEq,↓BtF]
   refine Bt0 (fun hn => ?_) (fun hn => ?_)
   case refine_2 =>
    simp -dsimp (disch:=first | assumption | omega) only [↓BtC,Bty,BtA,BtB,eq_self,Nat.reduceEqDiff,↓reduceIte,reduceCtorEq,↓BtF]
    simp [BxM,BvO,szs,hg,hg2,hn]
   simp -dsimp (disch:=first | assumption | omega) only [↓BtC,Bty,BtA,BtB,eq_self,Nat.reduceEqDiff,↓reduceIte,reduceCtorEq]
   refine Bt0 (fun hm => ?_) (fun hm => ?_)
   case refine_1 =>
    simp -dsimp (disch:=first | assumption | omega) only [↓BtC,Bty,BtA,BtB,eq_self,Nat.reduceEqDiff,↓reduceIte,↓BtF]
    simp [BxM,BvO,szs,hg,hg2,hn,show ¬ m≤100000 from by omega]
   simp -dsimp (disch:=first | assumption | omega) only [↓BtC,Bty,BtA,BtB,eq_self,Nat.reduceEqDiff,↓reduceIte,reduceCtorEq,↓BtF]
   have hfin:BvO base d=BIr base m r2.length [] r2:=by simp [BvO,szs,hg,hg2,hn]; omega
   refine Byl (fun k e H=>∃ (ver N cp:Nat) (cs:List TV) (out r':List UInt8),k=r'.length∧r'.length≤1000000∧out.length≤m∧cs.take out.length=out.map by8∧out.length≤cs.length∧BIr base m r'.length out r'=BvO base d ∧
    e=[(0,slB base),(6,.op 0 0 []),(8,i64 m),(9,.os 1 1 ver [] 0 out.length cp)]∧H=[.obj 0 (rdr r' false),.obj ver (.arr N 1 cs)]) r2.length ?_ ?_
   ·exact ⟨0,m,m,_,[],r2,rfl,by omega,by simp,by simp,by simp,hfin.symm,rfl,rfl⟩
   ·rintro k e H ⟨ver,N,cp,cs,out,r',rfl,hr',hout,hcs,hcl,hrun,rfl,rfl⟩
    cases r' with
    | nil =>
     have hd:BvO base d=if out.length=m then some out else none:=by rw [←hrun]; rfl
     simp -dsimp (disch:=first | assumption | omega) only [↓BtC,Bty,BtA,BtB,eq_self,Nat.reduceLT,Nat.reduceEqDiff,↓reduceIte,reduceCtorEq,↓BtF]
     refine Bt0 (fun hm => ?_) (fun hm => ?_)
     ·simp -dsimp (disch:=first | assumption | omega) only [↓BtC,Bty,BtA,BtB,eq_self,Nat.reduceEqDiff,↓reduceIte,↓BtF,hcs]
      simp [BxM,hd,hm]
     ·simp -dsimp (disch:=first | assumption | omega) only [↓BtC,Bty,BtA,BtB,eq_self,Nat.reduceEqDiff,↓reduceIte,↓BtF]
      simp [BxM,hd,hm]
    | cons b r' =>
     have hb:=b.toNat_lt
     simp only [List.length_cons] at hr'
     rw [List.length_cons,BIr] at hrun
     have hd:BxC base m out b r'=none→BvO base d=none:=fun h=>by rw [←hrun,h]
     simp -dsimp (disch:=first | assumption | omega) only [↓BtC,Bty,BtA,BtB,eq_self,Nat.reduceEqDiff,↓reduceIte,reduceCtorEq,↓BtF]
     refine BSi (by simp; omega) rfl ?_
     have b1:=B0o (b:=b.toNat) (by omega)
     simp only [rdB]
     simp -dsimp (disch:=first | assumption | omega) only [↓BtC,Bty,BtA,BtB,eq_self,Nat.reduceEqDiff,↓reduceIte,reduceCtorEq,↓BtF]
     refine Bt0 (fun h0 => ?_) (fun h0 => ?_)
     ·simp -dsimp (disch:=first | assumption | omega) only [↓BtC,Bty,BtA,BtB,eq_self,Nat.reduceEqDiff,↓reduceIte,↓BtF]
      simp [BxM,hd (by simp [BxC,h0])]
     by_cases h128:b.toNat<128
     ·rw [if_pos h128] at b1
      simp -dsimp (disch:=first | assumption | omega) only [↓BtC,Bty,BtA,BtB,eq_self,Nat.reduceLT,Nat.reduceEqDiff,↓reduceIte,Nat.reduceAdd,reduceCtorEq,↓BtF,b1]
      refine Bt0 (fun hr => ?_) (fun hr => ?_)
      ·simp -dsimp (disch:=first | assumption | omega) only [↓BtC,Bty,BtA,BtB,eq_self,Nat.reduceEqDiff,↓reduceIte,reduceCtorEq,↓BtF]
       simp [BxM,hd (by rw [BxC,if_neg h0,if_pos h128,if_neg (by omega)])]
      ·simp -dsimp (disch:=first | assumption | omega) only [↓BtC,Bty,BtA,BtB,eq_self,Nat.reduceEqDiff,↓reduceIte,reduceCtorEq]
       refine Bt0 (fun hm2 => ?_) (fun hm2 => ?_)
       ·simp -dsimp (disch:=first | assumption | omega) only [↓BtC,Bty,BtA,BtB,eq_self,Nat.reduceEqDiff,↓reduceIte,↓BtF]
        simp [BxM,hd (by rw [BxC,if_neg h0,if_pos h128,if_neg (by omega)])]
       ·have hs:BxC base m out b r'=some (out++r'.take b.toNat,r'.drop b.toNat):=by rw [BxC,if_neg h0,if_pos h128,if_pos (by omega)]
        rw [hs] at hrun
        simp -dsimp (disch:=first | assumption | omega) only [↓BtC,Bty,BtA,BtB,eq_self,Nat.reduceEqDiff,↓reduceIte,Nat.reduceAdd,reduceCtorEq,↓BtF,b1]
        have hlen:(out++r'.take b.toNat).length=out.length+b.toNat:=by simp; omega
        refine BtV (r'.length - b.toNat) (by omega) (by simp) ⟨ver+1,out.length+b.toNat,out.length+b.toNat,(out++r'.take b.toNat).map by8,out++r'.take b.toNat,r'.drop b.toNat,by simp,by simp; omega,by omega,by rw [List.take_of_length_le (by simp)],by simp,?_,?_,?_⟩
        ·rw [←hrun]; exact BwK _ _ _ _ (by simp) (by simp)
        ·rw [hlen]; rfl
        ·rw [List.map_append,←hcs]
     ·rw [if_neg h128] at b1
      have e15:=b15 b.toNat
      simp -dsimp (disch:=first | assumption | omega) only [↓BtC,Bty,BtA,BtB,eq_self,Nat.reduceLT,Nat.reduceEqDiff,↓reduceIte,reduceCtorEq,↓BtF,b1,e15]
      refine BZD (by omega) (by omega) rfl ?_
      have k1:=BBW 4 (b.toNat % 16) 0 0 r' false
      have k3:=BKP 4 (b.toNat % 16) 0 0 r' false (by omega)
      rcases g1:nbG 4 (b.toNat % 16) 0 0 r' false with ⟨a,r1,bad1⟩
      rw [g1] at k1 k3
      simp only at k1 k3
      have e7:=b7 (b.toNat / 16)
      simp -dsimp (disch:=first | assumption | omega) only [↓BtC,Bty,BtA,BtB,eq_self,Nat.reduceEqDiff,Nat.reducePow,↓reduceIte,reduceCtorEq,e7]
      refine BZD (by omega) (by omega) rfl ?_
      have k2:=BBW 4 (b.toNat / 16 % 8) 0 0 r1 bad1
      have k4:=BKP 4 (b.toNat / 16 % 8) 0 0 r1 bad1 (by omega)
      have hs:BxC base m out b r'=match nbG 4 (b.toNat / 16 % 8) 0 0 r1 bad1 with
       | (n,r2,bad2)=>if bad2=false∧a+(if n=0 then 65536 else n)≤base.length∧out.length+(if n=0 then 65536 else n)≤m then
        some (out++(base.drop a).take (if n=0 then 65536 else n),r2) else none:=by rw [BxC,if_neg h0,if_neg h128,g1]
      rcases g2:nbG 4 (b.toNat / 16 % 8) 0 0 r1 bad1 with ⟨n2,r2',bad2⟩
      rw [g2] at k2 k4 hs
      simp only at k2 k4 hs
      simp -dsimp (disch:=first | assumption | omega) only [↓BtC,Bty,BtA,BtB,eq_self,Nat.reduceEqDiff,↓reduceIte,reduceCtorEq]
      obtain ⟨sz,hsz⟩:∃ sz,sz=if n2=0 then 65536 else n2:=⟨_,rfl⟩
      rw [←hsz] at hs
      refine Bt0 (fun hz => ?_) (fun hz => ?_)
      ·rw [if_pos hz] at hsz
       simp -dsimp (disch:=first | assumption | omega) only [↓BtC,Bty,BtA,BtB,eq_self,Nat.reduceEqDiff,↓reduceIte,Nat.reduceAdd,reduceCtorEq,↓BtF]
       cases bad2 with
       | true =>
        simp -dsimp (disch:=first | assumption | omega) only [↓BtC,Bty,BtA,BtB,eq_self,Nat.reduceEqDiff,↓reduceIte,reduceCtorEq,↓BtF]
        simp [BxM,hd (by rw [hs]; simp)]
       | false =>
        simp only [true_and] at hs
        simp -dsimp (disch:=first | assumption | omega) only [↓BtC,Bty,BtA,BtB,eq_self,Nat.reduceEqDiff,↓reduceIte,reduceCtorEq]
        refine Bt0 (fun hr => ?_) (fun hr => ?_)
        ·simp -dsimp (disch:=first | assumption | omega) only [↓BtC,Bty,BtA,BtB,eq_self,Nat.reduceEqDiff,↓reduceIte,reduceCtorEq,↓BtF]
         simp [BxM,hd (by rw [hs,if_neg (by omega)])]
        ·simp -dsimp (disch:=first | assumption | omega) only [↓BtC,Bty,BtA,BtB,eq_self,Nat.reduceEqDiff,↓reduceIte,reduceCtorEq]
         refine Bt0 (fun hm2 => ?_) (fun hm2 => ?_)
         ·simp -dsimp (disch:=first | assumption | omega) only [↓BtC,Bty,BtA,BtB,eq_self,Nat.reduceEqDiff,↓reduceIte,↓BtF]
          simp [BxM,hd (by rw [hs,if_neg (by omega)])]
         ·rw [if_pos (by omega)] at hs
          rw [hs] at hrun
          have hl2:(base.drop a).length=base.length - a:=by simp
          subst hsz
          simp -dsimp (disch:=first | assumption | omega) only [↓BtC,Bty,BtA,BtB,eq_self,Nat.reduceEqDiff,↓reduceIte,Nat.reduceAdd,reduceCtorEq,Nat.reduceLeDiff,↓BtF]
          have hlen:(out++(base.drop a).take 65536).length=out.length+65536:=by simp; omega
          refine BtV r2'.length (by omega) (by simp) ⟨ver+1,out.length+65536,out.length+65536,(out++(base.drop a).take 65536).map by8,out++(base.drop a).take 65536,r2',rfl,by omega,by omega,by rw [List.take_of_length_le (by simp)],by simp,?_,?_,?_⟩
          ·rw [←hrun]; exact BwK _ _ _ _ (by simp) (by omega)
          ·rw [hlen]; rfl
          ·rw [List.map_append,←hcs]
      ·rw [if_neg hz] at hsz
       simp -dsimp (disch:=first | assumption | omega) only [↓BtC,Bty,BtA,BtB,eq_self,Nat.reduceEqDiff,↓reduceIte,Nat.reduceAdd,reduceCtorEq,↓BtF]
       cases bad2 with
       | true =>
        simp -dsimp (disch:=first | assumption | omega) only [↓BtC,Bty,BtA,BtB,eq_self,Nat.reduceEqDiff,↓reduceIte,reduceCtorEq,↓BtF]
        simp [BxM,hd (by rw [hs]; simp)]
       | false =>
        simp only [true_and] at hs
        simp -dsimp (disch:=first | assumption | omega) only [↓BtC,Bty,BtA,BtB,eq_self,Nat.reduceEqDiff,↓reduceIte,reduceCtorEq]
        refine Bt0 (fun hr => ?_) (fun hr => ?_)
        ·simp -dsimp (disch:=first | assumption | omega) only [↓BtC,Bty,BtA,BtB,eq_self,Nat.reduceEqDiff,↓reduceIte,reduceCtorEq,↓BtF]
         simp [BxM,hd (by rw [hs,if_neg (by omega)])]
        ·simp -dsimp (disch:=first | assumption | omega) only [↓BtC,Bty,BtA,BtB,eq_self,Nat.reduceEqDiff,↓reduceIte,reduceCtorEq]
         refine Bt0 (fun hm2 => ?_) (fun hm2 => ?_)
         ·simp -dsimp (disch:=first | assumption | omega) only [↓BtC,Bty,BtA,BtB,eq_self,Nat.reduceEqDiff,↓reduceIte,↓BtF]
          simp [BxM,hd (by rw [hs,if_neg (by omega)])]
         ·rw [if_pos (by omega)] at hs
          rw [hs] at hrun
          have hl2:(base.drop a).length=base.length - a:=by simp
          subst hsz
          simp -dsimp (disch:=first | assumption | omega) only [↓BtC,Bty,BtA,BtB,eq_self,Nat.reduceEqDiff,↓reduceIte,Nat.reduceAdd,reduceCtorEq,↓BtF]
          have hlen:(out++(base.drop a).take sz).length=out.length+sz:=by simp; omega
          refine BtV r2'.length (by omega) (by simp) ⟨ver+1,out.length+sz,out.length+sz,(out++(base.drop a).take sz).map by8,out++(base.drop a).take sz,r2',rfl,by omega,by omega,by rw [List.take_of_length_le (by simp)],by simp,?_,?_,?_⟩
          ·rw [←hrun]; exact BwK _ _ _ _ (by simp) (by omega)
          ·rw [hlen]; rfl
          ·rw [List.map_append,←hcs]
end
section
open Go.RowKit
variable [Bt6]
def szB:Nat→Nat→List UInt8
 | 0,n=>[UInt8.ofNat n]
 | f+1,n=>if 127<n then UInt8.ofNat (n % 128+128)::szB f (n / 128) else [UInt8.ofNat n]
theorem BHe {n:Nat} (h:n<256):(UInt8.ofNat n).toNat=n:=by rw [UInt8.toNat_ofNat']; omega
theorem BNY:∀ (f i n z:Nat) (r:List UInt8),n<2 ^ (7*(f+1))→z<2 ^ (7*i)→(0<i→0<n)→szG (f+1) i z (szB f n++r) false=(z+n*2 ^ (7*i),r,false):=by
 intro f
 induction f with
 | zero =>
  intro i n z r h hz hp
  have hn:n<128:=by simpa using h
  rw [szB,List.cons_append,List.nil_append,BCb (by rw [BHe (by omega)]; exact hn),BHe (by omega),BIM,Nat.mod_eq_of_lt hn,BHP hz]
  have:(decide (0<i) && decide (n=0))=false:=by
   simp only [Bool.and_eq_false_iff,decide_eq_false_iff_not]
   by_cases hi:0<i
   ·right; have:=hp hi; omega
   ·left; exact hi
  rw [this]; rfl
 | succ f ih =>
  intro i n z r h hz hp
  rw [szB]
  by_cases hn:127<n
  ·rw [if_pos hn,List.cons_append,BEh (by rw [BHe (by omega)]; omega),BHe (by omega),BIM]
   have e1:(n % 128+128) % 128=n % 128:=by omega
   rw [e1,BHP hz]
   have hz2:z+n % 128*2 ^ (7*i)<2 ^ (7*(i+1)):=by
    rw [show 7*(i+1)=7*i+7 by omega,Nat.pow_add]
    have:n % 128*2 ^ (7*i)≤127*2 ^ (7*i):=Nat.mul_le_mul_right _ (by omega)
    have:(2:Nat) ^ 7=128:=rfl
    omega
   have hn2:n / 128<2 ^ (7*(f+1)):=by
    rw [show 7*(f+1+1)=7*(f+1)+7 by omega,Nat.pow_add] at h
    have:(2:Nat) ^ 7=128:=rfl
    exact Nat.div_lt_of_lt_mul (by rw [Nat.mul_comm]; omega)
   rw [ih (i+1) (n / 128) _ r hn2 hz2 (fun _=>by omega)]
   congr 1
   rw [show 7*(i+1)=7*i+7 by omega,Nat.pow_add,show (2:Nat) ^ 7=128 from rfl]
   have hd:=Nat.div_add_mod n 128
   have:n*2 ^ (7*i)=(n / 128)*(2 ^ (7*i)*128)+n % 128*2 ^ (7*i):=by
    conv=>lhs; rw [←hd]
    rw [Nat.add_mul,Nat.mul_comm 128 (n / 128),Nat.mul_assoc,Nat.mul_comm 128 (2 ^ (7*i))]
   omega
  ·rw [if_neg hn,List.cons_append,List.nil_append,BCb (by rw [BHe (by omega)]; omega),BHe (by omega),BIM,Nat.mod_eq_of_lt (by omega),BHP hz]
   have:(decide (0<i) && decide (n=0))=false:=by
    simp only [Bool.and_eq_false_iff,decide_eq_false_iff_not]
    by_cases hi:0<i
    ·right; have:=hp hi; omega
    ·left; exact hi
   rw [this]; rfl
theorem BKb:∀ (f n:Nat),(szB f n).length≤f+1
 | 0,n=>by rw [szB]; simp
 | f+1,n=>by
  rw [szB]; split
  ·have:=BKb f (n / 128); simp; omega
  ·simp
theorem BKW {f n:Nat} (h:n<2097152):(szB f n).length≤3:=by
 cases f with
 | zero=>rw [szB]; simp
 | succ f =>
  rw [szB]; split
  ·cases f with
   | zero=>rw [szB]; simp
   | succ f =>
    rw [szB]; split
    ·have:∀ (f m:Nat),m≤127→(szB f m).length=1:=fun f m hm=>by
      cases f with
      | zero=>rw [szB]; rfl
      | succ f=>rw [szB,if_neg (by omega)]; rfl
     rw [List.length_cons,List.length_cons,this _ _ (by omega)]; omega
    ·simp
  ·simp
theorem BTK {n m:Nat} (hn:n<1000000) (hm:m<1000000) (r:List UInt8):szs (szB 4 n++(szB 4 m++r))=some (n,m,r):=by
 unfold szs
 rw [BNY 4 0 n 0 _ (by omega) (by simp) (by omega)]
 simp only [Bool.false_eq_true,if_false]
 rw [BNY 4 0 m 0 _ (by omega) (by simp) (by omega)]
 simp
def nzB (xs:List Nat):List UInt8:=(xs.filter fun x=>decide (0<x)).map UInt8.ofNat
def nzM:List Nat→Nat
 | []=>0
 | x::xs=>(if 0<x then 1 else 0)+2*nzM xs
def BMo:List Nat→Nat
 | []=>0
 | x::xs=>x+256*BMo xs
theorem BKM:∀ xs:List Nat,nzM xs<2 ^ xs.length
 | []=>by simp [nzM]
 | x::xs=>by have:=BKM xs; rw [nzM,List.length_cons,Nat.pow_succ]; split<;>omega
theorem BHY:∀ (xs:List Nat) (i n:Nat) (r:List UInt8) (bad:Bool),(∀ x∈xs,x<256)→n<2 ^ (8*i)→nbG xs.length (nzM xs) i n (nzB xs++r) bad=(n+BMo xs*2 ^ (8*i),r,bad)
 | [],i,n,r,bad,_,_=>by simp [nbG,nzB,BMo]
 | x::xs,i,n,r,bad,hx,hn=>by
  have hx0:=hx x (by simp)
  have hn2:n+x*2 ^ (8*i)<2 ^ (8*(i+1)):=by
   rw [show 8*(i+1)=8*i+8 by omega,Nat.pow_add]
   have:x*2 ^ (8*i)≤255*2 ^ (8*i):=Nat.mul_le_mul_right _ (by omega)
   have:(2:Nat) ^ 8=256:=rfl
   omega
  have hv:(x+256*BMo xs)*2 ^ (8*i)=x*2 ^ (8*i)+BMo xs*2 ^ (8*(i+1)):=by
   rw [show 8*(i+1)=8*i+8 by omega,Nat.pow_add,show (2:Nat) ^ 8=256 from rfl,Nat.add_mul]
   congr 1
   rw [Nat.mul_comm 256 (BMo xs),Nat.mul_assoc,Nat.mul_comm 256]
  rw [List.length_cons,nbG,nzM]
  by_cases h0:0<x
  ·rw [if_pos h0,if_pos (by omega)]
   have e1:nzB (x::xs)++r=UInt8.ofNat x::(nzB xs++r):=by simp [nzB,h0]
   rw [e1]
   show nbG xs.length ((1+2*nzM xs) / 2) (i+1) (n ||| (UInt8.ofNat x).toNat*2 ^ (8*i)) (nzB xs++r) bad=_
   rw [BHe hx0,BHP hn,show (1+2*nzM xs) / 2=nzM xs by omega,BHY xs (i+1) _ r bad (fun y hy=>hx y (by simp [hy])) hn2,BMo,hv]
   simp only [Nat.add_assoc]
  ·rw [if_neg h0,if_neg (by omega)]
   have hx00:x=0:=by omega
   subst hx00
   have e1:nzB (0::xs)++r=nzB xs++r:=by simp [nzB]
   rw [e1,show (0+2*nzM xs) / 2=nzM xs by omega,BHY xs (i+1) n r bad (fun y hy=>hx y (by simp [hy])) (by simpa using hn2),BMo,hv]
   simp
def cpN (a k:Nat):List Nat:=[a % 256,a / 256 % 256,a / 65536 % 256,a / 16777216 % 256,k % 256,k / 256 % 256]
def BSe (a k:Nat):List UInt8:=UInt8.ofNat (128+nzM (cpN a k))::nzB (cpN a k)
def Ops (base d out:List UInt8):Prop:=∀ (m:Nat) (pre r:List UInt8),pre.length+out.length≤m→BIr base m (d++r).length pre (d++r)=BIr base m r.length (pre++out) r
theorem Ops.nil {base:List UInt8}:Ops base [] []:=fun m pre r h=>by simp
theorem Ops.app {base d e out o2:List UInt8} (h:Ops base d out) (h2:Ops base e o2):Ops base (d++e) (out++o2):=fun m pre r hl=>by
 rw [List.length_append] at hl
 rw [List.append_assoc,h m pre (e++r) (by omega),h2 m (pre++out) r (by rw [List.length_append]; omega),List.append_assoc]
theorem Ops.own {base own:List UInt8} (h:own≠[]) (hl:own.length≤127):Ops base (UInt8.ofNat own.length::own) own:=fun m pre r hm=>by
 have h0:0<own.length:=List.length_pos_iff.2 h
 rw [List.cons_append,List.length_cons,BIr]
 have hs:BxC base m pre (UInt8.ofNat own.length) (own++r)=some (pre++own,r):=by
  unfold BxC
  rw [BHe (by omega),if_neg (by omega),if_pos (by omega),if_pos ⟨by simp,hm⟩]
  simp
 rw [hs]
 exact BwK _ _ _ _ (by simp) (Nat.le_refl _)
theorem BOT (a b c d e f:Nat):nzM [a,b,c,d,e,f]=nzM [a,b,c,d]+16*nzM [e,f]:=by
 simp only [nzM]; omega
theorem BIO (a b c d e f:Nat):nzB [a,b,c,d,e,f]=nzB [a,b,c,d]++nzB [e,f]:=by
 unfold nzB
 rw [←List.map_append,←List.filter_append]; rfl
theorem Ops.copy {base:List UInt8} {a k:Nat} (hk0:0<k) (hk:k≤65535) (ha:a+k≤base.length) (hb:base.length<4294967296):Ops base (BSe a k) ((base.drop a).take k):=fun m pre r hm=>by
 have hlen:((base.drop a).take k).length=k:=by rw [List.length_take,List.length_drop]; omega
 rw [hlen] at hm
 have h1:=BKM [a % 256,a / 256 % 256,a / 65536 % 256,a / 16777216 % 256]
 have h2:=BKM [k % 256,k / 256 % 256]
 simp only [List.length_cons,List.length_nil] at h1 h2
 unfold BSe cpN
 rw [BOT,BIO,List.cons_append,List.length_cons,BIr]
 generalize hA:nzM [a % 256,a / 256 % 256,a / 65536 % 256,a / 16777216 % 256]=A at *
 generalize hB:nzM [k % 256,k / 256 % 256]=B at *
 have hs:BxC base m pre (UInt8.ofNat (128+(A+16*B))) (nzB [a % 256,a / 256 % 256,a / 65536 % 256,a / 16777216 % 256]++nzB [k % 256,k / 256 % 256]++r)=some (pre++(base.drop a).take k,r):=by
  unfold BxC
  rw [BHe (by omega),if_neg (by omega),if_neg (by omega),show (128+(A+16*B)) % 16=A by omega,show (128+(A+16*B)) / 16 % 8=B by omega,List.append_assoc]
  have g1:=BHY [a % 256,a / 256 % 256,a / 65536 % 256,a / 16777216 % 256] 0 0 (nzB [k % 256,k / 256 % 256]++r) false (fun x hx=>by simp at hx; omega) (by simp)
  have g2:=BHY [k % 256,k / 256 % 256] 0 0 r false (fun x hx=>by simp at hx; omega) (by simp)
  simp only [List.length_cons,List.length_nil] at g1 g2
  rw [hA] at g1; rw [hB] at g2
  have g3:nbG 4 B 0 0 (nzB [k % 256,k / 256 % 256]++r) false=nbG 2 B 0 0 (nzB [k % 256,k / 256 % 256]++r) false:=by
   rw [BEI 3 B 0 0 _ false (by omega),BEI 2 B 0 0 _ false (by omega)]
  have v1:0+BMo [a % 256,a / 256 % 256,a / 65536 % 256,a / 16777216 % 256]*2 ^ (8*0)=a:=by simp [BMo]; omega
  have v2:0+BMo [k % 256,k / 256 % 256]*2 ^ (8*0)=k:=by simp [BMo]; omega
  rw [v1] at g1
  rw [v2] at g2
  simp only [g1,g3,g2]
  rw [if_neg (by omega:¬ k=0),if_pos ⟨trivial,ha,hm⟩]
 rw [hs]
 exact BwK _ _ _ _ (by simp only [List.length_append]; omega) (Nat.le_refl _)
theorem BPI (a k:Nat) (ha:a<16777216):(BSe a k).length≤6:=by
 unfold BSe cpN
 have h0:a / 16777216 % 256=0:=by omega
 rw [h0,BIO,List.length_cons,List.length_append]
 have:∀ xs:List Nat,(nzB xs).length≤xs.length:=fun xs=>by
  unfold nzB; rw [List.length_map]; exact List.length_filter_le _ _
 have h1:=this [k % 256,k / 256 % 256]
 have h2:(nzB [a % 256,a / 256 % 256,a / 65536 % 256,0]).length≤3:=by
  have e:nzB [a % 256,a / 256 % 256,a / 65536 % 256,0]=nzB [a % 256,a / 256 % 256,a / 65536 % 256]:=by
   unfold nzB
   rw [show [a % 256,a / 256 % 256,a / 65536 % 256,0]=[a % 256,a / 256 % 256,a / 65536 % 256]++[0] from rfl,List.filter_append]
   simp
  rw [e]; exact this _
 simp at h1
 omega
def ownB:Nat→List UInt8→List UInt8
 | 0,_=>[]
 | f+1,l=>if l=[] then [] else UInt8.ofNat (l.take 127).length::l.take 127++ownB f (l.drop 127)
theorem Ops.owns {base:List UInt8}:∀ (f:Nat) (l:List UInt8),l.length≤f→Ops base (ownB f l) l
 | 0,l,h=>by have:=List.eq_nil_of_length_eq_zero (by omega:l.length=0); subst this; exact Ops.nil
 | f+1,l,h=>by
  rw [ownB]
  by_cases hl:l=[]
  ·subst hl; exact Ops.nil
  ·rw [if_neg hl]
   have h0:0<l.length:=List.length_pos_iff.2 hl
   have:=(Ops.own (base:=base) (own:=l.take 127) (fun e=>(List.take_eq_nil_iff.1 e).elim (fun h=>by omega) hl) (by simp; omega)).app (Ops.owns f (l.drop 127) (by simp; omega))
   rw [List.take_append_drop] at this
   exact this
theorem BGt:∀ (f:Nat) (l:List UInt8),(ownB f l).length≤l.length+(l.length+126) / 127
 | 0,l=>by rw [ownB]; simp
 | f+1,l=>by
  rw [ownB]
  by_cases hl:l=[]
  ·rw [if_pos hl]; simp
  ·rw [if_neg hl]
   have h0:0<l.length:=List.length_pos_iff.2 hl
   have:=BGt f (l.drop 127)
   simp only [List.length_append,List.length_cons,List.length_take,List.length_drop] at *
   omega
def cpB:Nat→Nat→Nat→List UInt8
 | 0,_,_=>[]
 | f+1,a,n=>if n=0 then [] else BSe a (min n 65535)++cpB f (a+min n 65535) (n - min n 65535)
theorem Ops.copies {base:List UInt8} (hb:base.length<4294967296):∀ (f a n:Nat),n≤f→a+n≤base.length→Ops base (cpB f a n) ((base.drop a).take n)
 | 0,a,n,h,_=>by
            have:n=0:=by omega
            subst this; simpa [cpB] using Ops.nil
 | f+1,a,n,h,ha=>by
  rw [cpB]
  by_cases hn:n=0
  ·subst hn; simpa using Ops.nil
  ·rw [if_neg hn]
   have h1:=Ops.copy (base:=base) (a:=a) (k:=min n 65535) (by omega) (by omega) (by omega) hb
   have h2:=Ops.copies hb f (a+min n 65535) (n - min n 65535) (by omega) (by omega)
   have:=h1.app h2
   have e:(base.drop a).take (min n 65535)++(base.drop (a+min n 65535)).take (n - min n 65535)=(base.drop a).take n:=by
    rw [←List.drop_drop]
    conv=>rhs; rw [show n=min n 65535+(n - min n 65535) by omega,List.take_add]
   rw [e] at this
   exact this
theorem BN5:∀ (f a n:Nat),n≤f→a+n<16777216→(cpB f a n).length≤6*((n+65534) / 65535)
 | 0,a,n,h,_=>by simp [cpB]
 | f+1,a,n,h,ha=>by
  rw [cpB]
  by_cases hn:n=0
  ·rw [if_pos hn]; simp
  ·rw [if_neg hn,List.length_append]
   have h1:=BPI a (min n 65535) (by omega)
   have h2:=BN5 f (a+min n 65535) (n - min n 65535) (by omega) (by omega)
   omega
def BTZ (base target d:List UInt8):Prop:=(∃ ops,d=szB 4 base.length++(szB 4 target.length++ops)∧Ops base ops target)∧d.length≤target.length+target.length / 127+7
theorem BTZ.apply {base target d:List UInt8} (hb:base.length≤100000) (ht:target.length≤100000) (h:BTZ base target d):BvO base d=some target∧szs d=some (base.length,target.length,d.drop ((szB 4 base.length).length+(szB 4 target.length).length)):=by
 obtain ⟨⟨ops,rfl,ho⟩,_⟩:=h
 have hs:=BTK (n:=base.length) (m:=target.length) (by omega) (by omega) ops
 constructor
 ·unfold BvO
  rw [hs]
  show (if base.length=base.length∧target.length≤100000 then BIr base target.length ops.length [] ops else none)=_
  rw [if_pos ⟨rfl,ht⟩]
  have:=ho target.length [] [] (by simp)
  simp only [List.append_nil,List.nil_append] at this
  rw [this,List.length_nil,BIr,if_pos rfl]
 ·rw [hs,←List.append_assoc,List.drop_left' (by simp)]
end
section
open Go.RowKit
variable [Bt6]
set_option autoImplicit false
section
variable {t:TypeId} {a b:Nat} {k2:IntKind}
theorem BYz {n:Nat} (h:n<256):IntKind.u8.wrap (n:Int)=n:=by rw [IntKind.wrap_u8]; omega
theorem bv8 {n:Nat}:(BitVec.ofInt 8 (n:Int)).toNat=n % 256:=by
 rw [BitVec.toNat_ofInt]; omega
theorem BU4 (h1:a<256) (h2:b<256):BvB t .or (.int .u8 (a:Int)) (.int .u8 (b:Int))=some (.int .u8 ((a ||| b:Nat):Int)):=by
 rw [show BvB t .or (.int .u8 (a:Int)) (.int .u8 (b:Int))=some (.int .u8 (IntKind.u8.wrap ((BitVec.ofInt 8 a ||| BitVec.ofInt 8 b).toNat:Int))) from rfl,BitVec.toNat_or,bv8,bv8,Nat.mod_eq_of_lt (by omega),Nat.mod_eq_of_lt (by omega)]
 have:=Nat.or_lt_two_pow (n:=8) (x:=a) (y:=b) (by omega) (by omega)
 rw [BYz (by omega)]
end
theorem BOe {n:Nat} (h:n<256):TV.val (.int .u8 (n:Int))=by8 (UInt8.ofNat n):=by
 show TV.val (.int .u8 (n:Int))=TV.val (.int .u8 ((UInt8.ofNat n).toNat:Int))
 rw [UInt8.toNat_ofNat',Nat.mod_eq_of_lt (by omega)]
end
section
open Go.RowKit
variable [Bt6]
section
variable {t:TypeId} {a b:Nat} {k2:IntKind}
end
end
section
open Go.RowKit
variable [Bt6]
structure BWC (c c':Ctx) (n:Nat):Prop where
 beta:∀ id ver,c'.β (id+n) ver=c.β id ver
 has:∀ id ver,c.has id ver→c'.has (id+n) ver
 keepF:∀ b,c.F b→c'.F b
theorem BWC.bare {c c':Ctx} {n:Nat} {w:World} (h:BWC c c' n):Bxl c.bare w c'.bare w:=⟨fun b hb=>⟨h.keepF b hb,rfl⟩,fun _ _ k=>(Ctx.bare_has k).elim,fun _ _=>rfl⟩
end
section
variable [Bt6]
set_option maxRecDepth 100000
def BBP:Btx := .seq (.ops [mv_ 41 6,mv_ 42 1,mv_ 43 7,mv_ 44 8,po_ 45 (.slV 1 (.t 42) (some (.t 43)) (some (.t 44))),so_ 46 (.call 16 [.t 41,.t 45]),mv_ 6 46] [1,5,6,8,9,10])
 (.seq (.ops [mv_ 47 6,mv_ 48 9,mv_ 49 10,so_ 50 (.call 17 [.t 47,.t 48,.t 49]),mv_ 6 50] [1,5,6,8,10])
 (.seq (.ops [mv_ 51 8,mv_ 52 10,po_ 53 (.bin 3 .add (.t 51) (.t 52)),mv_ 8 53] [1,5,6,8])
 (.ops [mv_ 54 8,mv_ 7 54] [1,5,6,7,8])))
def BB7:Btx := .seq (.seq (.ops [mv_ 37 10,po_ 38 (.bin 3 .lss (.t 37) (ci_ 8))] [1,5,6,7,8,9,10,38])
 (.cond (.t 38)
 (.seq (.ops [mv_ 39 8,po_ 40 (.bin 3 .add (.t 39) (ci_ 1)),mv_ 8 40] [1,5,6,7,8])
  (.exit 1))
 (.skip)))
 BBP
def BB0:Btx := .block 1 (.seq (.ops [mv_ 30 5,mv_ 31 1,mv_ 32 8,po_ 33 (.slV 1 (.t 31) (some (.t 32)) none),so_ 34 (.call 15 [.t 30,.t 33]),mv_ 29 34,po_ 35 (.ext 0 (.t 29)),po_ 36 (.ext 1 (.t 29)),mv_ 9 35,mv_ 10 36] [1,5,6,7,8,9,10])
 BB7)
def BCn:Btx := .seq (.seq (.ops [mv_ 25 8,mv_ 26 1,po_ 27 (.lenV (.t 26)),po_ 28 (.bin 3 .lss (.t 25) (.t 27))] [1,5,6,7,8,28])
 (.cond (.t 28)
 (.skip)
 (.exit 0)))
 BB0
def BCa:Btx := .block 0 (.loop [1,5,6,7,8] BCn)
def BBQ:Btx := .seq (.ops [mv_ 55 6,mv_ 56 1,mv_ 57 7,po_ 58 (.slV 1 (.t 56) (some (.t 57)) none),so_ 59 (.call 16 [.t 55,.t 58]),mv_ 4 59] [4])
 (.ret)
def BBR:Btx := .seq (.seq (.ops [po_ 8 (.mov (ci_ 0))] [1,5,6,7,8])
 BCa)
 BBQ
def BCt:Btx := .seq (.ops [po_ 7 (.mov (ci_ 0))] [1,5,6,7])
 BBR
def BBZ:Btx := .seq (.ops [mv_ 19 0,po_ 20 (.lenV (.t 19)),so_ 21 (.call 14 [.c (.slice none 0 0),.t 20]),mv_ 22 1,po_ 23 (.lenV (.t 22)),so_ 24 (.call 14 [.t 21,.t 23]),mv_ 6 24] [1,5,6])
 BCt
def BxY:Btx := .seq (.ops [mv_ 17 0,so_ 18 (.call 13 [.t 17]),mv_ 5 18] [0,1,5])
 BBZ
def BBe:Btx := .seq (.seq (.ops [mv_ 11 0,po_ 12 (.lenV (.t 11)),mv_ 13 1,po_ 14 (.lenV (.t 13)),po_ 15 (.max (.t 12) (.t 14)),po_ 16 (.bin 3 .gtr (.t 15) (ci_ 100000))] [0,1,16])
 (.cond (.t 16)
 (.seq (.ops [po_ 4 (.mov (.c (.slice none 0 0)))] [4])
  (.ret))
 (.skip)))
 BxY
def BFK:Btx := .seq (.ops [po_ 4 (.mov (.c (.slice none 0 0)))] [0,1])
 BBe
def BBX:List VR:=[.tmp 4]
theorem BJl:Tryd.f5.body.bind (trC Tryd.prog Tryd.f5.ntmps)=some (er BFK):=by kernel_rfl
theorem BJi:trR Tryd.prog Tryd.f5.results.toList=some BBX:=by kernel_rfl
def BEY:=Btw BBP.eq_1
def BzL:=Btw BB7.eq_1
def BFe:=Btw BB0.eq_1
def Bz1:=Btw BCn.eq_1
def BFp:=Btw BCa.eq_1
def BFx:=Btw BBQ.eq_1
def BFk:=Btw BBR.eq_1
def BFo:=Btw BCt.eq_1
def BE7:=Btw BBZ.eq_1
def BEU:=Btw BxY.eq_1
def Bvv:=Btw BBe.eq_1
def Bxr:=Btw BFK.eq_1
theorem BzB {K:TV→Prop} {e:Env} {H:List Ob}:res BBX e H K=res [.tmp 4] e H K:=Btv rfl
def BEd:=BBx 60 Tryd.func5 BJl BJi rfl
def Byo:Btx := .seq (.block 1 (.draw 4 [mv_ 22 3,po_ 23 (.nilc (.t 22)),po_ 24 (.fieldA 2 2 (.t 23)),po_ 25 (.load false 1 (.t 24)),mv_ 26 0,mv_ 27 4,po_ 28 (.slV 1 (.t 26) (some (.t 27)) none),po_ 29 (.gen (.s2a 16 1) [.t 28]),po_ 30 (.load true 16 (.t 29)),mv_ 31 4,⟨none,.s (.mupd (.arr 16) (.t 25) (.t 30) (.t 31)),none⟩] [0,3,4]))
 (.ops [mv_ 20 4,po_ 21 (.bin 3 .add (.t 20) (ci_ 16)),mv_ 4 21] [0,3,4])
def Bx9:Btx := .seq (.seq (.ops [mv_ 15 4,po_ 16 (.bin 3 .add (.t 15) (ci_ 16)),mv_ 17 0,po_ 18 (.lenV (.t 17)),po_ 19 (.bin 3 .leq (.t 16) (.t 18))] [0,3,4,19])
 (.cond (.t 19)
 (.skip)
 (.exit 0)))
 Byo
def Byi:Btx := .block 0 (.loop [0,3,4] Bx9)
def Bx3:Btx := .seq (.ops [mv_ 32 3,mv_ 2 32] [2])
 (.ret)
def Byn:Btx := .seq (.seq (.ops [po_ 4 (.mov (ci_ 0))] [0,3,4])
 Byi)
 Bx3
def Byf:Btx := .seq (.ops [mv_ 11 3,so_ 12 (.mkm (.arr 16) none),po_ 13 (.nilc (.t 11)),po_ 14 (.fieldA 2 2 (.t 13)),⟨none,.s (.store 1 (.t 14) (.t 12)),none⟩] [0,3])
 Byn
def Bym:Btx := .cond (.t 10)
 Byf
 (.skip)
def Bx5:Btx := .seq (.ops [mv_ 33 3,mv_ 34 0,so_ 35 (.call 24 [.t 34]),po_ 36 (.nilc (.t 33)),po_ 37 (.fieldA 1 1 (.t 36)),⟨none,.s (.store 1 (.t 37) (.t 35)),none⟩] [3])
 (.seq (.ops [mv_ 38 3,mv_ 2 38] [2])
 (.ret))
def Bx7:Btx := .seq (.seq (.ops [mv_ 8 0,po_ 9 (.lenV (.t 8)),po_ 10 (.bin 3 .gtr (.t 9) (ci_ 20000))] [0,3,10])
 Bym)
 Bx5
def Bxz:Btx := .seq (.ops [mv_ 5 0,⟨some 6,.p (.build [.val (.slice none 0 0),.val (.slice none 0 0),.val (.map none)] [1,1,1] [⟨0,.t 5⟩]),none⟩,so_ 7 (.box (.t 6)),mv_ 3 7] [0,3])
 Bx7
def BzU:Btx := .seq (.ops [po_ 2 (.mov (.c (.pointer none)))] [0])
 Bxz
def BzG:List VR:=[.tmp 2]
theorem BFB:Tryd.f13.body.bind (trC Tryd.prog Tryd.f13.ntmps)=some (er BzU):=by kernel_rfl
theorem BE0:trR Tryd.prog Tryd.f13.results.toList=some BzG:=by kernel_rfl
def BBl:=Btw Byo.eq_1
def Bxb:=Btw Bx9.eq_1
def BBy:=Btw Byi.eq_1
def BBq:=Btw Bx3.eq_1
def BBi:=Btw Byn.eq_1
def BBz:=Btw Byf.eq_1
def Bw6:=Btw Bym.eq_1
def BBj:=Btw Bx5.eq_1
def Bxe:=Btw Bx7.eq_1
def BwG:=Btw Bxz.eq_1
def ByT:=Btw BzU.eq_1
theorem ByH {K:TV→Prop} {e:Env} {H:List Ob}:res BzG e H K=res [.tmp 2] e H K:=Btv rfl
def BD7:=BBx 39 Tryd.func13 BFB BE0 rfl
def BvF:Btx := .seq (.seq (.ops [mv_ 5 1,po_ 6 (.bin 3 .gtr (.t 5) (ci_ 127))] [0,1,6])
 (.cond (.t 6)
 (.skip)
 (.exit 0)))
 (.seq (.block 1 (.ops [mv_ 9 0,mv_ 10 1,po_ 11 (.conv .u8 (.t 10)),po_ 12 (.bin 5 .or (.t 11) (.c (.int .u8 ((128:Nat):Int)))),⟨some 13,.s (.bslice 1 1 (.val (.int .u8 ((0:Nat):Int))) [⟨0,.t 12⟩]),none⟩,so_ 14 (.app 1 1 5 (.t 9) (.t 13)),mv_ 0 14] [0,1]))
 (.ops [mv_ 7 1,po_ 8 (.bin 3 .shr (.t 7) (.c (.int .u64 ((7:Nat):Int)))),mv_ 1 8] [0,1]))
def BvI:Btx := .seq (.ops [mv_ 15 0,mv_ 16 1,po_ 17 (.conv .u8 (.t 16)),⟨some 18,.s (.bslice 1 1 (.val (.int .u8 ((0:Nat):Int))) [⟨0,.t 17⟩]),none⟩,so_ 19 (.app 1 1 5 (.t 15) (.t 18)),mv_ 4 19] [4])
 (.ret)
def BxI:Btx := .seq (.block 0 (.own 0 1 (.loop [0,1] BvF)))
 BvI
def Bzm:Btx := .seq (.ops [po_ 4 (.mov (.c (.slice none 0 0)))] [0,1])
 BxI
def BwW:List VR:=[.tmp 4]
theorem BEm:Tryd.f14.body.bind (trC Tryd.prog Tryd.f14.ntmps)=some (er Bzm):=by kernel_rfl
theorem BEn:trR Tryd.prog Tryd.f14.results.toList=some BwW:=by kernel_rfl
def BwX:=Btw BvF.eq_1
def BAF:=Btw BvI.eq_1
def BwZ:=Btw BxI.eq_1
def Byh:=Btw Bzm.eq_1
theorem BCJ {K:TV→Prop} {e:Env} {H:List Ob}:res BwW e H K=res [.tmp 4] e H K:=Btv rfl
def BDp:=BBx 20 Tryd.func14 BEm BEn rfl
def Bv9:Btx := .seq (.seq (.ops [mv_ 32 7,po_ 33 (.un .not (.t 32))] [1,2,6,33])
 (.cond (.t 33)
 (.seq (.ops [po_ 4 (.mov (ci_ 0)),po_ 5 (.mov (ci_ 0))] [4,5])
  (.ret))
 (.skip)))
 (.seq (.ops [mv_ 34 6,po_ 35 (.load false 1 (.t 2)),po_ 36 (.nilc (.t 35)),po_ 37 (.fieldA 0 0 (.t 36)),po_ 38 (.load false 1 (.t 37)),mv_ 39 6,po_ 40 (.slV 1 (.t 38) (some (.t 39)) none),mv_ 41 1,so_ 42 (.call 25 [.t 40,.t 41]),mv_ 4 34,mv_ 5 42] [4,5])
 (.ret))
def Bv8:Btx := .seq (.draw 10 [po_ 22 (.load false 1 (.t 2)),po_ 23 (.nilc (.t 22)),po_ 24 (.fieldA 2 2 (.t 23)),po_ 25 (.load false 1 (.t 24)),mv_ 26 1,po_ 27 (.gen (.s2a 16 1) [.t 26]),po_ 28 (.load true 16 (.t 27)),po_ 29 (.gen (.look (.arr 16) (.val (.int .i64 ((0:Nat):Int))) true) [.t 25,.t 28]),mv_ 21 29,po_ 30 (.ext 0 (.t 21)),po_ 31 (.ext 1 (.t 21)),mv_ 6 30,mv_ 7 31] [1,2,6,7])
 Bv9
def Bv6:Btx := .seq (.seq (.ops [mv_ 18 1,po_ 19 (.lenV (.t 18)),po_ 20 (.bin 3 .lss (.t 19) (ci_ 16))] [1,2,20])
 (.cond (.t 20)
 (.seq (.ops [po_ 4 (.mov (ci_ 0)),po_ 5 (.mov (ci_ 0))] [4,5])
  (.ret))
 (.skip)))
 Bv8
def Bv3:Btx := .cond (.t 17)
 Bv6
 (.skip)
def Bv4:Btx := .ops [po_ 90 (.load false 1 (.t 2)),po_ 91 (.nilc (.t 90)),po_ 92 (.fieldA 1 1 (.t 91)),po_ 93 (.load false 1 (.t 92)),mv_ 94 11,po_ 95 (.idxA 1 (.t 93) (.t 94)),po_ 96 (.load false 1 (.t 95)),mv_ 97 12,mv_ 4 96,mv_ 5 97] [1,2,4,5,56,57,58]
def Bv7:Btx := .seq (.ops [mv_ 87 12,mv_ 88 5,po_ 89 (.bin 3 .gtr (.t 87) (.t 88))] [1,2,4,5,11,12,56,57,58,89])
 (.cond (.t 89)
 Bv4
 (.skip))
def Bv2:Btx := .seq (.draw 4 [po_ 73 (.load false 1 (.t 2)),po_ 74 (.nilc (.t 73)),po_ 75 (.fieldA 0 0 (.t 74)),po_ 76 (.load false 1 (.t 75)),po_ 77 (.load false 1 (.t 2)),po_ 78 (.nilc (.t 77)),po_ 79 (.fieldA 1 1 (.t 78)),po_ 80 (.load false 1 (.t 79)),mv_ 81 11,po_ 82 (.idxA 1 (.t 80) (.t 81)),po_ 83 (.load false 1 (.t 82)),po_ 84 (.slV 1 (.t 76) (some (.t 83)) none),mv_ 85 1,so_ 86 (.call 25 [.t 84,.t 85]),mv_ 12 86] [1,2,4,5,11,12,56,57,58])
 Bv7
def Bv1:Btx := .cond (.t 72)
 Bv2
 (.skip)
def Bv0:Btx := .seq (.ops [mv_ 62 11,po_ 63 (.bin 3 .geq (.t 62) (ci_ 0)),mv_ 64 63,⟨some 65,.p (.mov (.t 11)),some ⟨64,true⟩⟩,⟨some 66,.p (.load false 1 (.t 2)),some ⟨64,true⟩⟩,⟨some 67,.p (.nilc (.t 66)),some ⟨64,true⟩⟩,⟨some 68,.p (.fieldA 1 1 (.t 67)),some ⟨64,true⟩⟩,⟨some 69,.p (.load false 1 (.t 68)),some ⟨64,true⟩⟩,⟨some 70,.p (.lenV (.t 69)),some ⟨64,true⟩⟩,⟨some 71,.p (.bin 3 .lss (.t 65) (.t 70)),some ⟨64,true⟩⟩,po_ 72 (.pick (.t 64) (.t 71) (.c (.bool false)))] [1,2,4,5,11,56,57,58,72])
 Bv1
def BvU:Btx := .seq (.block 1 (.seq (.ops [po_ 60 (.idxA 1 (.t 56) (.t 58)),po_ 61 (.load false 1 (.t 60)),mv_ 11 61] [1,2,4,5,11,56,57,58])
 Bv0))
 (.ops [po_ 98 (.bin 3 .add (.t 58) (ci_ 1)),mv_ 58 98] [1,2,4,5,56,57,58])
def BvV:Btx := .seq (.cond (.t 59)
 (.skip)
 (.exit 0))
 BvU
def BvM:Btx := .seq (.ops [po_ 59 (.bin 3 .lss (.t 58) (.t 57))] [1,2,4,5,56,57,58,59])
 BvV
def BvS:Btx := .block 0 (.loop [1,2,4,5,56,57,58] BvM)
def BvR:Btx := .seq (.ops [mv_ 99 4,mv_ 100 5,mv_ 4 99,mv_ 5 100] [4,5])
 (.ret)
def BvN:Btx := .seq (.seq (.ops [mv_ 53 8,po_ 54 (.bin 3 .sub (.t 53) (ci_ 1)),mv_ 55 8,⟨some 56,.s (.bslice 1 2 (.val (.int .i64 ((0:Nat):Int))) [⟨0,.t 54⟩,⟨1,.t 55⟩]),none⟩,po_ 57 (.lenV (.t 56)),po_ 58 (.mov (ci_ 0))] [1,2,4,5,56,57,58])
 BvS)
 BvR
def BvT:Btx := .seq (.ops [po_ 44 (.load false 1 (.t 2)),po_ 45 (.nilc (.t 44)),po_ 46 (.fieldA 1 1 (.t 45)),po_ 47 (.load false 1 (.t 46)),mv_ 48 1,po_ 49 (.mkf (.func 27) [] [.t 2]),so_ 50 (.call 26 [.t 47,.t 48,.t 49]),mv_ 43 50,po_ 51 (.ext 0 (.t 43)),po_ 52 (.ext 1 (.t 43)),mv_ 8 51,mv_ 9 52] [1,2,4,5,8])
 BvN
def BvQ:Btx := .seq (.seq (.ops [po_ 13 (.load false 1 (.t 2)),po_ 14 (.nilc (.t 13)),po_ 15 (.fieldA 2 2 (.t 14)),po_ 16 (.load false 1 (.t 15)),po_ 17 (.eqN 2 (.t 16) (.c (.map none)) true)] [1,2,4,5,17])
 Bv3)
 BvT
def Bw3:Btx := .seq (.ops [so_ 2 (.box (.t 0)),po_ 4 (.mov (ci_ 0)),po_ 5 (.mov (ci_ 0))] [1,2,4,5])
 BvQ
def Bw8:List VR:=[.tmp 4,.tmp 5]
theorem BBt:Tryd.f15.body.bind (trC Tryd.prog Tryd.f15.ntmps)=some (er Bw3):=by kernel_rfl
theorem BBm:trR Tryd.prog Tryd.f15.results.toList=some Bw8:=by kernel_rfl
def BvA:=Btw Bv9.eq_1
def ByN:=Btw Bv8.eq_1
def BvG:=Btw Bv6.eq_1
def BuP:=Btw Bv3.eq_1
def ByV:=Btw Bv4.eq_1
def BvD:=Btw Bv7.eq_1
def ByU:=Btw Bv2.eq_1
def BuL:=Btw Bv1.eq_1
def BuO:=Btw Bv0.eq_1
def BuF:=Btw BvU.eq_1
def Bub:=Btw BvV.eq_1
def Bud:=Btw BvM.eq_1
def Byw:=Btw BvS.eq_1
def Byx:=Btw BvR.eq_1
def Byv:=Btw BvN.eq_1
def Byy:=Btw BvT.eq_1
def BuE:=Btw BvQ.eq_1
def BuY:=Btw Bw3.eq_1
theorem BuC {K:TV→Prop} {e:Env} {H:List Ob}:res Bw8 e H K=res [.tmp 4,.tmp 5] e H K:=Btv rfl
def BAI:=BBx 101 Tryd.func15 BBt BBm rfl
def Bya:Btx := .ops [mv_ 5 8] [2,5]
def Byu:Btx := .block 1 (.ops [po_ 9 (.load false 1 (.t 2)),mv_ 10 5,po_ 11 (.lenV (.t 10)),po_ 12 (.conv .u8 (.t 11)),⟨some 13,.s (.bslice 1 1 (.val (.int .u8 ((0:Nat):Int))) [⟨0,.t 12⟩]),none⟩,so_ 14 (.app 1 1 5 (.t 9) (.t 13)),mv_ 15 5,so_ 16 (.app 1 1 5 (.t 14) (.t 15)),⟨none,.s (.store 1 (.t 2) (.t 16)),none⟩] [])
def Byq:Btx := .seq (.ops [po_ 17 (.load false 1 (.t 2)),mv_ 4 17] [4])
 (.ret)
def Byr:Btx := .seq (.seq (.ops [mv_ 6 1,so_ 7 (.call 29 [.t 6,.c (.int .i64 ((127:Nat):Int))])] [2,4,7])
 (.block 0 (.rfunc (.t 7) [8] Bya Byu)))
 Byq
def BzP:Btx := .seq (.ops [so_ 2 (.box (.t 0)),po_ 4 (.mov (.c (.slice none 0 0)))] [1,2,4])
 Byr
def BzT:List VR:=[.tmp 4]
theorem BFu:Tryd.f16.body.bind (trC Tryd.prog Tryd.f16.ntmps)=some (er BzP):=by kernel_rfl
theorem BE3:trR Tryd.prog Tryd.f16.results.toList=some BzT:=by kernel_rfl
def BBp:=Btw Bya.eq_1
def BBh:=Btw Byu.eq_1
def BBs:=Btw Byq.eq_1
def BBB:=Btw Byr.eq_1
def BDT:=Btw BzP.eq_1
theorem BDS {K:TV→Prop} {e:Env} {H:List Ob}:res BzT e H K=res [.tmp 4] e H K:=Btv rfl
def BD1:=BBx 18 Tryd.func16 BFu BE3 rfl
def BxE:Btx := .seq (.draw 4 [mv_ 38 0,mv_ 39 8,po_ 40 (.idxA 1 (.t 38) (.t 39)),po_ 41 (.load false 1 (.t 40)),mv_ 42 9,po_ 43 (.bin 5 .shl (.c (.int .u8 ((1:Nat):Int))) (.t 42)),po_ 44 (.bin 5 .or (.t 41) (.t 43)),po_ 45 (.idxA 1 (.t 38) (.t 39)),⟨none,.s (.store 1 (.t 45) (.t 44)),none⟩] [0,1,2,7,8,10,30,31])
 (.ops [mv_ 46 0,mv_ 47 10,po_ 48 (.conv .u8 (.t 47)),⟨some 49,.s (.bslice 1 1 (.val (.int .u8 ((0:Nat):Int))) [⟨0,.t 48⟩]),none⟩,so_ 50 (.app 1 1 5 (.t 46) (.t 49)),mv_ 0 50] [0,1,2,7,8,30,31])
def BxA:Btx := .cond (.t 37)
 BxE
 (.skip)
def BxP:Btx := .seq (.ops [mv_ 35 10,po_ 36 (.bin 3 .and (.t 35) (ci_ 255)),po_ 37 (.bin 3 .gtr (.t 36) (ci_ 0))] [0,1,2,7,8,9,10,30,31,37])
 BxA
def BxJ:Btx := .seq (.block 3 (.seq (.ops [mv_ 33 31,po_ 34 (.idx false 6 1 (.t 30) (.t 31)),mv_ 9 33,mv_ 10 34] [0,1,2,7,8,9,10,30,31])
 BxP))
 (.ops [po_ 51 (.bin 3 .add (.t 31) (ci_ 1)),mv_ 31 51] [0,1,2,7,8,30,31])
def BxH:Btx := .seq (.cond (.t 32)
 (.skip)
 (.exit 2))
 BxJ
def BxO:Btx := .seq (.ops [po_ 32 (.bin 3 .lss (.t 31) (ci_ 6))] [0,1,2,7,8,30,31,32])
 BxH
def BxL:Btx := .block 2 (.own 0 1 (.loop [0,1,2,7,8,30,31] BxO))
def BxV:Btx := .seq (.ops [mv_ 52 1,mv_ 53 7,po_ 54 (.bin 3 .add (.t 52) (.t 53)),mv_ 1 54] [0,1,2,7])
 (.ops [mv_ 55 2,mv_ 56 7,po_ 57 (.bin 3 .sub (.t 55) (.t 56)),mv_ 2 57] [0,1,2])
def BxR:Btx := .seq (.seq (.ops [mv_ 20 1,mv_ 21 1,po_ 22 (.bin 3 .shr (.t 21) (.c (.int .u64 ((8:Nat):Int)))),mv_ 23 1,po_ 24 (.bin 3 .shr (.t 23) (.c (.int .u64 ((16:Nat):Int)))),mv_ 25 1,po_ 26 (.bin 3 .shr (.t 25) (.c (.int .u64 ((24:Nat):Int)))),mv_ 27 7,mv_ 28 7,po_ 29 (.bin 3 .shr (.t 28) (.c (.int .u64 ((8:Nat):Int)))),⟨some 30,.p (.buildA 6 1 [.val (.int .i64 ((0:Nat):Int)),.val (.int .i64 ((0:Nat):Int)),.val (.int .i64 ((0:Nat):Int)),.val (.int .i64 ((0:Nat):Int)),.val (.int .i64 ((0:Nat):Int)),.val (.int .i64 ((0:Nat):Int))] [⟨0,.t 20⟩,⟨1,.t 22⟩,⟨2,.t 24⟩,⟨3,.t 26⟩,⟨4,.t 27⟩,⟨5,.t 29⟩]),none⟩,po_ 31 (.mov (ci_ 0))] [0,1,2,7,8,30,31])
 BxL)
 BxV
def Bw4:Btx := .seq (.ops [mv_ 17 0,⟨some 18,.s (.bslice 1 1 (.val (.int .u8 ((0:Nat):Int))) [⟨0,.c (.int .u8 ((128:Nat):Int))⟩]),none⟩,so_ 19 (.app 1 1 5 (.t 17) (.t 18)),mv_ 0 19] [0,1,2,7,8])
 BxR
def Bvp:Btx := .seq (.ops [mv_ 15 0,po_ 16 (.lenV (.t 15)),mv_ 8 16] [0,1,2,7,8])
 Bw4
def Bw9:Btx := .block 1 (.seq (.ops [mv_ 13 2,po_ 14 (.min (.t 13) (ci_ 65535)),mv_ 7 14] [0,1,2,7])
 Bvp)
def Bw7:Btx := .seq (.seq (.ops [mv_ 11 2,po_ 12 (.bin 3 .gtr (.t 11) (ci_ 0))] [0,1,2,12])
 (.cond (.t 12)
 (.skip)
 (.exit 0)))
 Bw9
def Bvu:Btx := .seq (.ops [mv_ 58 0,mv_ 6 58] [6])
 (.ret)
def Bxc:Btx := .seq (.block 0 (.own 0 1 (.loop [0,1,2] Bw7)))
 Bvu
def Bzl:Btx := .seq (.ops [po_ 6 (.mov (.c (.slice none 0 0)))] [0,1,2])
 Bxc
def BwP:List VR:=[.tmp 6]
theorem BEk:Tryd.f17.body.bind (trC Tryd.prog Tryd.f17.ntmps)=some (er Bzl):=by kernel_rfl
theorem BEH:trR Tryd.prog Tryd.f17.results.toList=some BwP:=by kernel_rfl
def BAw:=Btw BxE.eq_1
def BwM:=Btw BxA.eq_1
def BwS:=Btw BxP.eq_1
def BwT:=Btw BxJ.eq_1
def Bvf:=Btw BxH.eq_1
def Bvb:=Btw BxO.eq_1
def BAr:=Btw BxL.eq_1
def BAH:=Btw BxV.eq_1
def BAs:=Btw BxR.eq_1
def BAd:=Btw Bw4.eq_1
def BzF:=Btw Bvp.eq_1
def Bwr:=Btw Bw9.eq_1
def Bu3:=Btw Bw7.eq_1
def BzQ:=Btw Bvu.eq_1
def BAg:=Btw Bxc.eq_1
def BCK:=Btw Bzl.eq_1
theorem BCI {K:TV→Prop} {e:Env} {H:List Ob}:res BwP e H K=res [.tmp 6] e H K:=Btv rfl
def BDs:=BBx 59 Tryd.func17 BEk BEH rfl
def BAp:Btx := .sdraw 10 [mv_ 24 4,mv_ 25 7,po_ 26 (.load false 1 (.t 5)),mv_ 27 7,mv_ 28 7,mv_ 29 0,mv_ 30 7,po_ 31 (.idxA 1 (.t 29) (.t 30)),po_ 32 (.load false 1 (.t 31)),po_ 33 (.conv .i64 (.t 32)),po_ 34 (.idxA 1 (.t 24) (.t 25)),⟨none,.s (.store 1 (.t 34) (.t 28)),none⟩,po_ 35 (.idxA 1 (.t 26) (.t 27)),⟨none,.s (.store 1 (.t 35) (.t 33)),none⟩] [0,3,4,5,6,20,21]
def BzW:Btx := .seq (.block 1 (.seq (.ops [mv_ 23 21,mv_ 7 23] [0,3,4,5,6,7,20,21])
 BAp))
 (.ops [po_ 36 (.bin 3 .add (.t 21) (ci_ 1)),mv_ 21 36] [0,3,4,5,6,20,21])
def Bz9:Btx := .seq (.cond (.t 22)
 (.skip)
 (.exit 0))
 BzW
def BzY:Btx := .seq (.ops [po_ 22 (.bin 3 .lss (.t 21) (.t 20))] [0,3,4,5,6,20,21,22])
 Bz9
def BAe:Btx := .block 0 (.loop [0,3,4,5,6,20,21] BzY)
def Bz0:Btx := .ops [mv_ 76 6,mv_ 77 11,po_ 78 (.idxA 1 (.t 76) (.t 77)),po_ 79 (.load false 1 (.t 78)),po_ 80 (.bin 3 .add (.t 79) (ci_ 1)),po_ 81 (.idxA 1 (.t 76) (.t 77)),⟨none,.s (.store 1 (.t 81) (.t 80)),none⟩] [3,4,5,6,8,9,44,45,46]
def BzE:Btx := .seq (.ops [mv_ 67 9,mv_ 68 4,mv_ 69 10,po_ 70 (.bin 3 .sub (.t 69) (ci_ 1)),po_ 71 (.idxA 1 (.t 68) (.t 70)),po_ 72 (.load false 1 (.t 71)),mv_ 73 11,so_ 74 (.callv (.t 67) [.t 72,.t 73]),po_ 75 (.bin 3 .neq (.t 74) (ci_ 0))] [3,4,5,6,8,9,11,44,45,46,75])
 (.cond (.t 75)
 Bz0
 (.skip))
def BzN:Btx := .seq (.ops [mv_ 56 6,mv_ 57 11,mv_ 58 6,mv_ 59 4,mv_ 60 10,po_ 61 (.bin 3 .sub (.t 60) (ci_ 1)),po_ 62 (.idxA 1 (.t 59) (.t 61)),po_ 63 (.load false 1 (.t 62)),po_ 64 (.idxA 1 (.t 58) (.t 63)),po_ 65 (.load false 1 (.t 64)),po_ 66 (.idxA 1 (.t 56) (.t 57)),⟨none,.s (.store 1 (.t 66) (.t 65)),none⟩] [3,4,5,6,8,9,10,11,44,45,46])
 BzE
def BAl:Btx := .cond (.t 55)
 BzN
 (.skip)
def Bzo:Btx := .seq (.ops [mv_ 54 10,po_ 55 (.bin 3 .gtr (.t 54) (ci_ 0))] [3,4,5,6,8,9,10,11,44,45,46,55])
 BAl
def Bzh:Btx := .seq (.ops [mv_ 51 6,mv_ 52 11,po_ 53 (.idxA 1 (.t 51) (.t 52)),⟨none,.s (.store 1 (.t 53) (ci_ 0)),none⟩] [3,4,5,6,8,9,10,11,44,45,46])
 Bzo
def Bzr:Btx := .seq (.block 5 (.seq (.ops [mv_ 48 46,po_ 49 (.idxA 1 (.t 44) (.t 46)),po_ 50 (.load false 1 (.t 49)),mv_ 10 48,mv_ 11 50] [3,4,5,6,8,9,10,11,44,45,46])
 Bzh))
 (.ops [po_ 82 (.bin 3 .add (.t 46) (ci_ 1)),mv_ 46 82] [3,4,5,6,8,9,44,45,46])
def By7:Btx := .seq (.cond (.t 47)
 (.skip)
 (.exit 4))
 Bzr
def Bzc:Btx := .seq (.ops [po_ 47 (.bin 3 .lss (.t 46) (.t 45))] [3,4,5,6,8,9,44,45,46,47])
 By7
def Bzi:Btx := .block 4 (.loop [3,4,5,6,8,9,44,45,46] Bzc)
def BwN:Btx := .seq (.ops [mv_ 83 6,po_ 84 (.load false 1 (.t 5)),⟨none,.s (.store 1 (.t 5) (.t 83)),none⟩,mv_ 6 84] [3,4,5,6,8])
 (.seq (.ops [po_ 85 (.load false 1 (.t 8)),po_ 86 (.load false 1 (.t 3)),po_ 87 (.bin 3 .geq (.t 85) (.t 86))] [3,4,5,6,8,87])
 (.cond (.t 87)
 (.seq (.ops [mv_ 88 4,mv_ 2 88] [2])
  (.ret))
 (.skip)))
def BwV:Btx := .seq (.seq (.ops [mv_ 44 4,po_ 45 (.lenV (.t 44)),po_ 46 (.mov (ci_ 0))] [3,4,5,6,8,9,44,45,46])
 Bzi)
 BwN
def Bzb:Btx := .seq (.ops [mv_ 41 4,mv_ 42 9,so_ 43 (.call 36 [.t 41,.t 42])] [3,4,5,6,8,9])
 BwV
def Bza:Btx := .seq (.seq (.ops [po_ 89 (.load false 1 (.t 8))] [3,4,5,6,89])
 (.ops [so_ 8 (.alloc (.val (.int .i64 ((0:Nat):Int)))),⟨none,.s (.store 1 (.t 8) (.t 89)),none⟩] [3,4,5,6,8]))
 (.ops [po_ 37 (.load false 1 (.t 8)),po_ 38 (.bin 3 .mul (ci_ 2) (.t 37)),po_ 39 (.max (ci_ 1) (.t 38)),⟨none,.s (.store 1 (.t 8) (.t 39)),none⟩] [3,4,5,6,8])
def By6:Btx := .seq (.block 3 (.seq (.ops [po_ 40 (.mkf (.func 35) [] [.t 5,.t 8,.t 3]),mv_ 9 40] [3,4,5,6,8,9])
 Bzb))
 Bza
def Bzn:Btx := .block 2 (.loop [3,4,5,6,8] By6)
def Bvx:Btx := .seq (.ops [so_ 8 (.alloc (.val (.int .i64 ((0:Nat):Int)))),⟨none,.s (.store 1 (.t 8) (ci_ 0)),none⟩] [3,4,5,6,8])
 Bzn
def Bvw:Btx := .seq (.seq (.ops [po_ 20 (.load false 1 (.t 3)),po_ 21 (.mov (ci_ 0))] [0,3,4,5,6,20,21])
 BAe)
 Bvx
def Bvn:List VR:=[.tmp 2]
theorem BG7:trR Tryd.prog Tryd.f24.results.toList=some Bvn:=by kernel_rfl
def BDK:=Btw BAp.eq_1
def BDC:=Btw BzW.eq_1
def ByF:=Btw Bz9.eq_1
def ByS:=Btw BzY.eq_1
def BDr:=Btw BAe.eq_1
def BDx:=Btw Bz0.eq_1
def BDU:=Btw BzE.eq_1
def BDM:=Btw BzN.eq_1
def ByD:=Btw BAl.eq_1
def Byg:=Btw Bzo.eq_1
def BCU:=Btw Bzh.eq_1
def BCL:=Btw Bzr.eq_1
def Byp:=Btw By7.eq_1
def Byt:=Btw Bzc.eq_1
def BCP:=Btw Bzi.eq_1
def BvY:=Btw BwN.eq_1
def BCM:=Btw BwV.eq_1
def BCQ:=Btw Bzb.eq_1
def Bx8:=Btw Bza.eq_1
def BCS:=Btw By6.eq_1
def BCT:=Btw Bzn.eq_1
def BCR:=Btw Bvx.eq_1
def BCF:=Btw Bvw.eq_1
theorem BGe {K:TV→Prop} {e:Env} {H:List Ob}:res Bvn e H K=res [.tmp 2] e H K:=Btv rfl
def BzO:Btx := .seq (.seq (.draw 16 [mv_ 6 5,mv_ 7 0,po_ 8 (.lenV (.t 7)),po_ 9 (.bin 3 .lss (.t 6) (.t 8)),mv_ 10 9,⟨some 11,.p (.mov (.t 5)),some ⟨10,true⟩⟩,⟨some 12,.p (.mov (.t 1)),some ⟨10,true⟩⟩,⟨some 13,.p (.lenV (.t 12)),some ⟨10,true⟩⟩,⟨some 14,.p (.bin 3 .lss (.t 11) (.t 13)),some ⟨10,true⟩⟩,po_ 15 (.pick (.t 10) (.t 14) (.c (.bool false))),mv_ 16 15,⟨some 17,.p (.mov (.t 0)),some ⟨16,true⟩⟩,⟨some 18,.p (.mov (.t 5)),some ⟨16,true⟩⟩,⟨some 19,.p (.idxA 1 (.t 17) (.t 18)),some ⟨16,true⟩⟩,⟨some 20,.p (.load false 1 (.t 19)),some ⟨16,true⟩⟩,⟨some 21,.p (.mov (.t 1)),some ⟨16,true⟩⟩,⟨some 22,.p (.mov (.t 5)),some ⟨16,true⟩⟩,⟨some 23,.p (.idxA 1 (.t 21) (.t 22)),some ⟨16,true⟩⟩,⟨some 24,.p (.load false 1 (.t 23)),some ⟨16,true⟩⟩,⟨some 25,.p (.bin 5 .eql (.t 20) (.t 24)),some ⟨16,true⟩⟩,po_ 26 (.pick (.t 16) (.t 25) (.c (.bool false)))] [0,1,5,26])
 (.cond (.t 26)
 (.skip)
 (.exit 0)))
 (.block 1 (.ops [mv_ 27 5,po_ 28 (.bin 3 .add (.t 27) (ci_ 1)),mv_ 5 28] [0,1,5]))
def Bz5:Btx := .seq (.ops [mv_ 29 5,mv_ 4 29] [4])
 (.ret)
def BzH:Btx := .seq (.block 0 (.loop [0,1,5] BzO))
 Bz5
def BAh:Btx := .seq (.ops [po_ 5 (.mov (ci_ 0))] [0,1,5])
 BzH
def BDe:Btx := .seq (.ops [po_ 4 (.mov (ci_ 0))] [0,1])
 BAh
def BCZ:List VR:=[.tmp 4]
theorem BG6:Tryd.f25.body.bind (trC Tryd.prog Tryd.f25.ntmps)=some (er BDe):=by kernel_rfl
theorem BHd:trR Tryd.prog Tryd.f25.results.toList=some BCZ:=by kernel_rfl
def Bvd:=Btw BzO.eq_1
def Bwf:=Btw Bz5.eq_1
def BDw:=Btw BzH.eq_1
def BDq:=Btw BAh.eq_1
def BF2:=Btw BDe.eq_1
theorem Bx1 {K:TV→Prop} {e:Env} {H:List Ob}:res BCZ e H K=res [.tmp 4] e H K:=Btv rfl
def BGK:=BBx 30 Tryd.func25 BG6 BHd rfl
end
section
open Go.RowKit
variable [Bt6]
theorem BEO {α:Type} {z a:α}:(List.replicate 1 z).set 0 a=[a]:=by simp [List.replicate]
structure BBK (H H':List Ob) (id:Nat) (o:Ob):Prop where
 at':H'[id]?=some o
 low:∀ i,i<H.length→i≠id→H'[i]?=H[i]?
 len:H.length≤H'.length
theorem BBK.trans {H H1 H2:List Ob} {id:Nat} {o o2:Ob} (h:BBK H H1 id o) (k:BBK H1 H2 id o2):BBK H H2 id o2:=⟨k.at',fun i h1 h2=>(k.low i (Nat.lt_of_lt_of_le h1 h.len) h2).trans (h.low i h1 h2),Nat.le_trans h.len k.len⟩
abbrev BH4 (v:Nat) (l:List UInt8):Ob := .obj v (.arr l.length 1 (l.map by8))
theorem BBK.snoc {H H' T:List Ob} {id v:Nat} {l m:List UInt8} {o:Ob} (h:BBK H H' id o):BBK H (H'.set id (.obj (v+1) (.arr (l.length+m.length) 1 (l.map by8++m.map by8)))++T) id (BH4 (v+1) (l++m)):=by
 have hid:=(List.getElem?_eq_some_iff.1 h.at').1
 refine ⟨?_,fun j h1 h2 => ?_,by simp; have:=h.len; omega⟩
 ·rw [List.getElem?_append_left (by simpa using hid),List.getElem?_set_self hid,BH4,List.map_append,List.length_append]
 ·rw [List.getElem?_append_left (by have:=h.len; simp; omega),List.getElem?_set_ne (Ne.symm h2)]; exact h.low j h1 h2
def lcp:List UInt8→List UInt8→Nat
 | x::a,y::b=>if x=y then lcp a b+1 else 0
 | _,_=>0
theorem BSr:∀ b,lcp [] b=0:=fun b=>by cases b<;>rfl
theorem BR6:∀ (a b:List UInt8),lcp a b≤a.length∧lcp a b≤b.length
 | [],b=>by simp [lcp]
 | x::a,[]=>by simp [lcp]
 | x::a,y::b=>by have:=BR6 a b; rw [lcp]; split<;>simp<;>omega
theorem BLf:∀ (a b:List UInt8),a.take (lcp a b)=b.take (lcp a b)
 | [],b=>by simp [lcp]
 | x::a,[]=>by simp [lcp]
 | x::a,y::b=>by
  rw [lcp]
  split
  ·rename_i h; subst h; simp [BLf a b]
  ·simp
theorem BM4 (a b:List UInt8) (ha:a.length≤1000000) (hb:b.length≤1000000):ByW Tryd.prog 25 [slB a,slB b] (fun r=>r=i64 (lcp a b:Int)):=by
 refine BtJ.toPureV (BGK (by simp) ?_)
 simp -dsimp (disch:=first | assumption | omega | (simp only [Btz];try omega)) only [↓BtC,Bty,BtA,BtB,eq_self,Nat.reduceEqDiff,↓reduceIte,Nat.reduceAdd,reduceCtorEq,↓BF2,↓BDq,↓BDw]
 refine Byl (fun q e H=>∃ k:Nat,q=a.length - k∧k≤a.length∧k≤b.length∧k+lcp (a.drop k) (b.drop k)=lcp a b∧H=[]∧e=[(0,slB a),(1,slB b),(5,i64 (k:Int))]) a.length ?_ ?_
 ·exact ⟨0,rfl,Nat.zero_le _,Nat.zero_le _,by simp,rfl,rfl⟩
 rintro q e H ⟨k,rfl,hk,hk2,hl,rfl,rfl⟩
 by_cases h1:k<a.length
 case neg =>
  have e1:a.drop k=[]:=List.drop_of_length_le (by omega)
  rw [e1,BSr] at hl
  simp -dsimp (disch:=first | assumption | omega | (simp only [Btz];try omega)) only [↓BtC,Bty,BtA,BtB,eq_self,Nat.reduceEqDiff,↓reduceIte,reduceCtorEq,↓Bvd,↓Bwf,↓Bx1]
  rw [←hl]; rfl
 by_cases h2:k<b.length
 case neg =>
  have e1:b.drop k=[]:=List.drop_of_length_le (by omega)
  have:lcp (a.drop k) []=0:=by cases a.drop k<;>rfl
  rw [e1,this] at hl
  simp -dsimp (disch:=first | assumption | omega | (simp only [Btz];try omega)) only [↓BtC,Bty,BtA,BtB,eq_self,Nat.reduceEqDiff,↓reduceIte,reduceCtorEq,h1,h2,↓Bvd,↓Bwf,↓Bx1]
  rw [←hl]; rfl
 have ga:a[k]?=some a[k]:=List.getElem?_eq_getElem h1
 have gb:b[k]?=some b[k]:=List.getElem?_eq_getElem h2
 rw [List.drop_eq_getElem_cons h1,List.drop_eq_getElem_cons h2,lcp] at hl
 generalize a[k]=x at *
 generalize b[k]=y at *
 by_cases hxy:x=y
 ·subst hxy
  rw [if_pos rfl] at hl
  simp -dsimp (disch:=first | assumption | omega | (simp only [Btz];try omega)) only [↓BtC,Bty,BtA,BtB,eq_self,Nat.reduceEqDiff,↓reduceIte,reduceCtorEq,h1,h2,ga,gb,↓Bvd]
  exact BtV (a.length - (k+1)) (by omega) (by simp) ⟨k+1,rfl,by omega,by omega,by omega,rfl,rfl⟩
 ·rw [if_neg hxy] at hl
  have hn:¬ x.toNat=y.toNat:=fun e=>hxy (UInt8.toNat_inj.1 e)
  simp -dsimp (disch:=first | assumption | omega | (simp only [Btz];try omega)) only [↓BtC,Bty,BtA,BtB,eq_self,Nat.reduceEqDiff,↓reduceIte,reduceCtorEq,h1,h2,ga,gb,hn,↓Bvd,↓Bwf,↓Bx1]
  rw [←hl]; rfl
set_option maxRecDepth 100000 in
theorem BU5:∀ b:Fin 256,(b.val ||| 128=b.val % 128+128):=by decide
theorem BY2 {b:Nat} (h:b<256):b ||| 128=b % 128+128:=BU5 ⟨b,h⟩
theorem BLm {l:List UInt8} {n:Nat} (hn:n<1000000) (hl:l.length≤100000000) {x0:TV} {id v cp:Nat} {H:List Ob} (hx:(x0 = .os 1 id v [] 0 l.length cp∧H[id]?=some (BH4 v l))∨(x0 = .val (.slice none 0 0)∧l=[]∧id=H.length)) {K:TV→List Ob→Prop}
  (hK:∀ H' v',BBK H H' id (BH4 v' (l++szB 4 n))→K (.os 1 id v' [] 0 (l++szB 4 n).length (l++szB 4 n).length) H'):BtJ Tryd.prog 14 [x0,i64 (n:Int)] H K:=by
 refine BDp (by simp) ?_
 have hloop:∀ (H1:List Ob) (v0 cp0:Nat),BBK H H1 id (BH4 v0 l)→vwp Tryd.prog (.loop [0,1] BvF) (Blk 0 (Thn Tryd.prog BvI (BG8 BwW K))) [(0,.os 1 id v0 [] 0 l.length cp0),(1,i64 (n:Int))] H1:=by
  intro H1 v0 cp0 hG0
  refine Byl (fun q e H'=>∃ (f n' v' cp':Nat) (l':List UInt8),q=f∧n'<2 ^ (7*(f+1))∧n'<1000000∧l'.length≤l.length+4∧f≤4∧l'.length+f=l.length+4∧l'++szB f n'=l++szB 4 n∧BBK H H' id (BH4 v' l')∧H1.length≤H'.length∧e=[(0,.os 1 id v' [] 0 l'.length cp'),(1,i64 (n':Int))]) 4 ?_ ?_
  ·exact ⟨4,n,v0,cp0,l,rfl,by omega,hn,by omega,by omega,by omega,rfl,hG0,Nat.le_refl _,rfl⟩
  rintro f e H' ⟨_,n',v',cp',l',rfl,hf,hn',hll,hf4,hlf,hlist,hG,hHl,rfl⟩
  have hcv:IntKind.u8.wrap (n':Int)=((n' % 256:Nat):Int):=by rw [IntKind.wrap_u8]; omega
  have hidl:=(List.getElem?_eq_some_iff.1 hG.at').1
  have htk:(l'.map by8).take l'.length=l'.map by8:=List.take_of_length_le (by simp)
  have ha:=hG.at'
  by_cases h1:127<n'
  ·cases f with
   | zero=>simp at hf; omega
   | succ f =>
   rw [szB,if_pos h1] at hlist
   have hor:∀ t,BvB t .or (.int .u8 ((n' % 256:Nat):Int)) (.int .u8 ((128:Nat):Int))=some (.int .u8 ((n' % 128+128:Nat):Int)):=fun t=>by
    rw [BU4 (by omega) (by omega),BY2 (Nat.mod_lt _ (by omega))]
    congr 3; omega
   have hb8:TV.val (.int .u8 ((n' % 128+128:Nat):Int))=by8 (UInt8.ofNat (n' % 128+128)):=by rw [BOe (by omega)]
   simp -dsimp (disch:=first | assumption | omega | (simp only [Btz];try omega)) only [↓BtC,Bty,BtA,BtB,eq_self,Nat.reduceEqDiff,Nat.reducePow,↓reduceIte,reduceCtorEq,Nat.reduceLeDiff,↓BwX,h1,ha,BEO,htk,hcv,hor,hb8]
   have hg:=hG.snoc (v:=v') (l:=l') (m:=[UInt8.ofNat (n' % 128+128)]) (T:=[Ob.obj 0 (TV.arr 1 1 [by8 (UInt8.ofNat (n' % 128+128))])])
   have hn2:n' / 128<2 ^ (7*(f+1)):=by
    rw [show 7*(f+1+1)=7*(f+1)+7 by omega,Nat.pow_add] at hf
    have:(2:Nat) ^ 7=128:=rfl
    exact Nat.div_lt_of_lt_mul (by rw [Nat.mul_comm]; omega)
   exact BtV f (by omega) (by simp; omega) ⟨f,n' / 128,v'+1,l'.length+1,l'++[UInt8.ofNat (n' % 128+128)],rfl,hn2,by omega,by simp; omega,by omega,by simp; omega,by rw [List.append_assoc]; exact hlist,hg,by simp; omega,by rw [List.length_append]; rfl⟩
  ·have hsz:szB f n'=[UInt8.ofNat n']:=by cases f<;>simp [szB,h1]
   rw [hsz] at hlist
   have hb8:TV.val (.int .u8 ((n' % 256:Nat):Int))=by8 (UInt8.ofNat n'):=by rw [BOe (by omega)]; congr 1; apply UInt8.toNat_inj.1; simp
   simp -dsimp (disch:=first | assumption | omega | (simp only [Btz];try omega)) only [↓BtC,Bty,BtA,BtB,eq_self,Nat.reduceEqDiff,↓reduceIte,reduceCtorEq,Nat.reduceLeDiff,↓BwX,h1,↓BAF,ha,BEO,htk,hcv,hb8,↓BCJ]
   have hg:=hG.snoc (v:=v') (l:=l') (m:=[UInt8.ofNat n']) (T:=[Ob.obj 0 (TV.arr 1 1 [by8 (UInt8.ofNat n')])])
   rw [hlist] at hg
   have:=hK _ _ hg
   have hle:(l++szB 4 n).length=l'.length+1:=by rw [←hlist]; simp
   rw [hle] at this
   exact this
 rcases hx with ⟨rfl,hx⟩ | ⟨rfl,rfl,rfl⟩
 ·have:=hloop H v cp ⟨hx,fun _ _ _=>rfl,Nat.le_refl _⟩
  simp -dsimp (disch:=first | assumption | omega | (simp only [Btz];try omega)) only [↓BtC,Bty,BtA,BtB,eq_self,Nat.reduceEqDiff,↓reduceIte,Nat.reduceAdd,reduceCtorEq,↓Byh,↓BwZ]
  exact this
 ·have:=hloop (H++[.obj 0 (.arr 0 1 [])]) 0 0 ⟨by simp,fun i h1 h2=>by rw [List.getElem?_append_left h1],by simp⟩
  simp -dsimp (disch:=first | assumption | omega | (simp only [Btz];try omega)) only [↓BtC,Bty,BtA,BtB,eq_self,Nat.reduceEqDiff,↓reduceIte,Nat.reduceAdd,reduceCtorEq,↓Byh,↓BwZ]
  exact this
end
section
open Go.RowKit
variable [Bt6]
theorem BHL {P:Program} {c:Ctx} {w:World} {l:List UInt8} {v:Value} (h:Rep c w (slB l) v):(Extern.Bytes.bytesOf v).run P w = .ok ⟨l.toArray⟩ w:=by
 obtain ⟨hw,hr⟩:=h.sl
 rcases hr with ⟨he,ad,cap,rfl,_⟩ | ⟨b,off,cap,us,rfl,h3,h4,h5,h6,h7⟩
 ·have hl:l=[]:=by simpa using he
  subst hl
  cases ad with
  | none=>rfl
  | some a=>rfl
 ·have hb:=Bxs (fun y hy=>by obtain ⟨b,_,rfl⟩:=List.mem_map.1 hy; exact BK2 b) h6
  rw [BCA] at hb
  have hl:=Lib.run_loadBytesX (P:=P) w (l.map fun b:UInt8=>(b.toNat:Int)) ⟨b,off,none⟩ .empty (fun j x hj=>by
   rw [BuU]
   refine h7 j _ ?_
   rw [hb,List.getElem?_map]
   rw [List.getElem?_map] at hj
   cases hg:l[j]? with
   | none=>rw [hg] at hj; cases hj
   | some y=>rw [hg] at hj; cases hj; rfl)
  have e2:Lib.bytesOf (l.map fun b:UInt8=>(b.toNat:Int))=l:=by simp [Lib.bytesOf,List.map_map,Function.comp_def]
  rw [e2] at hl
  simp only [List.length_map] at hl ⊢
  simp only [Extern.Bytes.bytesOf]
  rw [hl]
  congr 1
  apply ByteArray.ext
  show (#[]:Array UInt8)++l.toArray=l.toArray
  simp
theorem BJw {P:Program} {w:World} {u v:Value} {a b:List UInt8} (h1:(Extern.Bytes.bytesOf u).run P w = .ok ⟨a.toArray⟩ w) (h2:(Extern.Bytes.bytesOf v).run P w = .ok ⟨b.toArray⟩ w):(Extern.BytealgCompare.compare #[u,v]).run P w = .ok (.int .i64 (Lib.compareBytes a b)) w:=by
 change Sem.run P (do pure (goInt (Extern.BytealgCompare.cmp (←Extern.Bytes.bytesOf u) (←Extern.Bytes.bytesOf v)))) w=_
 simp only [Sem.run_bind,Sem.run_pure,h1,h2,Result.andThen]
 rw [Lib.cmp_eq]
 rfl
set_option maxHeartbeats 2000000 in
set_option maxRecDepth 100000 in
theorem BLH (u v:Value) (z:Int) (w:World) (h:(Extern.BytealgCompare.compare #[u,v]).run Tryd.prog w = .ok (.int .i64 z) w) :
  Calls Tryd.prog 28 #[u,v] w fun e w'=>e = .returned (.int .i64 z)∧w'=w:=by
 go_enter Tryd.func28,Tryd.ntmps28
 go_wp2
 rw [run_callFunc_extern Tryd.func37 (by kernel_rfl) (by kernel_rfl) (by kernel_rfl) (e:=Extern.BytealgCompare.compare) (by kernel_rfl),h]
 simp only [Result.andThen]
 rw [Oper.upon_value]
 go_wp2
 go_ret
 exact ⟨rfl,rfl⟩
theorem BRg (a b:List UInt8):ByW Tryd.prog 28 [slB a,slB b] (fun x=>x = .val (.int .i64 (Lib.compareBytes a b))):=by
 intro β F w vs hF hv
 obtain ⟨v,us,rfl,h1,hv⟩:=BtY.cons.1 hv
 obtain ⟨v2,us,rfl,h2,hv⟩:=BtY.cons.1 hv
 rw [BtY.nil] at hv; subst hv
 refine (BLH v v2 _ w (BJw (BHL (Or.inl h1)) (BHL (Or.inl h2)))).mono ?_
 rintro e w' ⟨rfl,rfl⟩
 exact ⟨_,_,F,rfl,rfl,Rep.of_val,⟨rfl,rfl,rfl,Nat.le_refl _,fun _ _=>rfl,fun _ h=>h,fun _ _ h=>h,hF.1⟩⟩
end
section
variable [Bt6]
set_option maxRecDepth 100000
def Bup:Btx := .seq (.ops [mv_ 24 2,mv_ 25 0,mv_ 26 11,po_ 27 (.idxA 1 (.t 25) (.t 26)),po_ 28 (.load false 1 (.t 27)),mv_ 29 1,so_ 30 (.callv (.t 24) [.t 28,.t 29]),po_ 31 (.bin 3 .lss (.t 30) (ci_ 0))] [0,1,2,8,9,10,11,31])
 (.cond (.t 31)
 (.ops [mv_ 32 11,po_ 33 (.bin 3 .add (.t 32) (ci_ 1)),mv_ 9 33] [0,1,2,8,9,10])
 (.ops [mv_ 34 11,mv_ 10 34] [0,1,2,8,9,10]))
def Buq:Btx := .block 1 (.seq (.ops [mv_ 18 9,mv_ 19 10,po_ 20 (.bin 3 .add (.t 18) (.t 19)),po_ 21 (.conv .u64 (.t 20)),po_ 22 (.bin 37 .shr (.t 21) (.c (.int .u64 ((1:Nat):Int)))),po_ 23 (.conv .i64 (.t 22)),mv_ 11 23] [0,1,2,8,9,10,11])
 Bup)
def Bus:Btx := .seq (.seq (.ops [mv_ 15 9,mv_ 16 10,po_ 17 (.bin 3 .lss (.t 15) (.t 16))] [0,1,2,8,9,10,17])
 (.cond (.t 17)
 (.skip)
 (.exit 0)))
 Buq
def Bun:Btx := .seq (.ops [mv_ 35 9,mv_ 36 9,mv_ 37 8,po_ 38 (.bin 3 .lss (.t 36) (.t 37)),mv_ 39 38,⟨some 40,.p (.mov (.t 2)),some ⟨39,true⟩⟩,⟨some 41,.p (.mov (.t 0)),some ⟨39,true⟩⟩,⟨some 42,.p (.mov (.t 9)),some ⟨39,true⟩⟩,⟨some 43,.p (.idxA 1 (.t 41) (.t 42)),some ⟨39,true⟩⟩,⟨some 44,.p (.load false 1 (.t 43)),some ⟨39,true⟩⟩,⟨some 45,.p (.mov (.t 1)),some ⟨39,true⟩⟩,⟨some 46,.s (.callv (.t 40) [.t 44,.t 45]),some ⟨39,true⟩⟩,⟨some 47,.p (.bin 3 .eql (.t 46) (ci_ 0)),some ⟨39,true⟩⟩,po_ 48 (.pick (.t 39) (.t 47) (.c (.bool false))),mv_ 6 35,mv_ 7 48] [6,7])
 (.ret)
def Buu:Btx := .seq (.block 0 (.loop [0,1,2,8,9,10] Bus))
 Bun
def Bur:Btx := .seq (.ops [mv_ 14 8,po_ 9 (.mov (ci_ 0)),mv_ 10 14] [0,1,2,8,9,10])
 Buu
def Buo:Btx := .seq (.ops [mv_ 12 0,po_ 13 (.lenV (.t 12)),mv_ 8 13] [0,1,2,8])
 Bur
def BuA:Btx := .seq (.ops [po_ 6 (.mov (ci_ 0)),po_ 7 (.mov (.c (.bool false)))] [0,1,2])
 Buo
def Buz:List VR:=[.tmp 6,.tmp 7]
theorem BvK:Tryd.f26.body.bind (trC Tryd.prog Tryd.f26.ntmps)=some (er BuA):=by kernel_rfl
theorem BvL:trR Tryd.prog Tryd.f26.results.toList=some Buz:=by kernel_rfl
def Bva:=Btw Bup.eq_1
def Bu9:=Btw Buq.eq_1
def BtW:=Btw Bus.eq_1
def Bui:=Btw Bun.eq_1
def Bu7:=Btw Buu.eq_1
def Bvg:=Btw Bur.eq_1
def Bu8:=Btw Buo.eq_1
def Bvz:=Btw BuA.eq_1
theorem Buy {K:TV→Prop} {e:Env} {H:List Ob}:res Buz e H K=res [.tmp 6,.tmp 7] e H K:=Btv rfl
def BvE:=BBx 49 Tryd.func26 BvK BvL rfl
def Bwx:Btx := .seq (.ops [po_ 5 (.mov (ci_ 0))] [0,1,2])
 (.seq (.ops [po_ 6 (.load false 1 (.t 2)),po_ 7 (.nilc (.t 6)),po_ 8 (.fieldA 0 0 (.t 7)),po_ 9 (.load false 1 (.t 8)),mv_ 10 0,po_ 11 (.slV 1 (.t 9) (some (.t 10)) none),mv_ 12 1,so_ 13 (.call 28 [.t 11,.t 12]),mv_ 5 13] [5])
 (.ret))
def Bwv:List VR:=[.tmp 5]
theorem BAj:Tryd.f27.body.bind (trC Tryd.prog Tryd.f27.ntmps)=some (er Bwx):=by kernel_rfl
theorem BAa:trR Tryd.prog Tryd.f27.results.toList=some Bwv:=by kernel_rfl
def By1:=Btw Bwx.eq_1
theorem ByY {K:TV→Prop} {e:Env} {H:List Ob}:res Bwv e H K=res [.tmp 5] e H K:=Btv rfl
def Bws:=(And.intro @By1 @ByY)
def Bzy:=BBx 14 Tryd.func27 BAj BAa rfl
end
section
open Go.RowKit
variable [Bt6]
abbrev BXp (base:List UInt8) (x y:TV):TV := .fp (.fp (.agg [slB base,x,y]))
theorem BWK {base b:List UInt8} {p:Nat} (hp:p≤base.length) (hb:base.length≤1000000) {x y:TV}:ByW Tryd.prog 27 [i64 (p:Int),slB b,BXp base x y] (fun r=>r=i64 (Lib.compareBytes (base.drop p) b)):=by
 refine BtJ.toPureV (Bzy (by simp) ?_)
 simp -dsimp (disch:=first | assumption | omega | (simp only [Btz];try omega)) only [↓BtC,Bty,BtA,BtB,eq_self,Nat.reduceEqDiff,↓reduceIte,Nat.reduceAdd,reduceCtorEq,↓Bws]
 refine Bzz ((BRg (base.drop p) b).calls (by simp [BuD,BuT]) fun r hr => ?_)
 subst hr
 simp -dsimp (disch:=first | assumption | omega | (simp only [Btz];try omega)) only [↓BtC,Bty,BtA,BtB,eq_self,↓reduceIte,↓Bws]
def bsI (lt:Nat→Bool):Nat→Nat→Nat→Nat
 | 0,i,_=>i
 | f+1,i,j=>if i<j then (if lt ((i+j) / 2) then bsI lt f ((i+j) / 2+1) j else bsI lt f i ((i+j) / 2)) else i
theorem BNp (lt:Nat→Bool):∀ (f i j:Nat),i≤j→bsI lt f i j≤j
 | 0,i,j,h=>h
 | f+1,i,j,h=>by
  rw [bsI]
  split
  ·split
   ·exact BNp lt f _ j (by omega)
   ·exact Nat.le_trans (BNp lt f i _ (by omega)) (by omega)
  ·exact h
theorem BGm (lt:Nat→Bool):∀ (f g i j:Nat),j - i≤f→j - i≤g→bsI lt f i j=bsI lt g i j
 | 0,0,i,j,_,_=>rfl
 | 0,g+1,i,j,h1,h2=>by rw [bsI,bsI,if_neg (by omega)]
 | f+1,0,i,j,h1,h2=>by rw [bsI,bsI,if_neg (by omega)]
 | f+1,g+1,i,j,h1,h2=>by
  rw [bsI,bsI]
  by_cases h:i<j
  ·rw [if_pos h,if_pos h,BGm lt f g ((i+j) / 2+1) j (by omega) (by omega),BGm lt f g i ((i+j) / 2) (by omega) (by omega)]
  ·rw [if_neg h,if_neg h]
def ltP (base b:List UInt8) (ps:List Nat) (h:Nat):Bool:=decide (Lib.compareBytes (base.drop (ps.getD h 0)) b<0)
abbrev psT (ps:List Nat):TV := .sl 1 (ps.map fun p:Nat=>i64 (p:Int))
theorem BQt {t:TypeId} {k2:IntKind} {a b:Nat} (h2:b≤64) (ha:a<18446744073709551616):BvB t .shr (.int .u64 (a:Int)) (.int k2 (b:Int))=some (.int .u64 ((a / 2 ^ b:Nat):Int)):=by
 have e:binOp .shr t (.int .u64 (a:Int)) (.int k2 (b:Int))=pure (.int .u64 ((a / 2 ^ b:Nat):Int)):=by
  show Op.shift .shr .u64 a k2 b=_
  unfold Op.shift
  rw [if_neg (by omega)]
  have hm:min ((b:Int)).toNat IntKind.u64.bits=b:=by
   have:IntKind.u64.bits=64:=rfl
   omega
  simp only [hm]
  rw [Int.fdiv_eq_ediv_of_nonneg _ (by exact Int.le_of_lt (Int.pow_pos (by omega)))]
  have e2:(a:Int) / 2 ^ b=((a / 2 ^ b:Nat):Int):=by rw [Int.natCast_ediv,Int.natCast_pow]; rfl
  rw [e2]
 unfold BvB; rw [e]; rfl
theorem B0s {base b:List UInt8} {ps:List Nat} (hps:∀ p∈ps,p<base.length) (hpl:ps.length≤1000000) (hb:base.length≤1000000) {x y:TV} (hx:BuT x=true) (hy:BuT y=true) :
  ByW Tryd.prog 26 [psT ps,slB b,.fn (.func 27) [] [BXp base x y]] (fun r=>∃ z,r = .tup [i64 (bsI (ltP base b ps) ps.length 0 ps.length:Int),tb z]):=by
 refine BtJ.toPureV (BvE (by simp) ?_)
 have hgo:BEV Tryd.prog 27=true:=by kernel_rfl
 simp -dsimp (disch:=first | assumption | omega | (simp only [Btz];try omega)) only [↓BtC,Bty,BtA,BtB,eq_self,Nat.reduceEqDiff,↓reduceIte,Nat.reduceAdd,reduceCtorEq,↓Bvz,↓Bu8,↓Bvg,↓Bu7]
 refine Byl (fun q e H=>∃ i j:Nat,q=j - i∧i≤j∧j≤ps.length∧bsI (ltP base b ps) ps.length 0 ps.length=bsI (ltP base b ps) (j - i) i j∧H=[] ∧
  e=[(0,psT ps),(1,slB b),(2,.fn (.func 27) [] [BXp base x y]),(8,i64 (ps.length:Int)),(9,i64 (i:Int)),(10,i64 (j:Int))]) ps.length ?_ ?_
 ·exact ⟨0,ps.length,rfl,by omega,by omega,rfl,rfl,rfl⟩
 rintro q e H ⟨i,j,rfl,hij,hjl,hbs,rfl,rfl⟩
 by_cases h:i<j
 ·obtain ⟨m,hm⟩:∃ m,m=(i+j) / 2:=⟨_,rfl⟩
  obtain ⟨p,hg⟩:∃ p,ps[m]?=some p:=⟨_,List.getElem?_eq_getElem (by omega)⟩
  have hp:=hps p (List.mem_of_getElem? hg)
  have hgd:ps.getD m 0=p:=by rw [List.getD_eq_getElem?_getD,hg]; rfl
  obtain ⟨f,hf⟩:∃ f,j - i=f+1:=⟨j - i - 1,by omega⟩
  rw [hf,bsI,if_pos h,←hm] at hbs
  have hlt:ltP base b ps m=decide (Lib.compareBytes (base.drop p) b<0):=by unfold ltP; rw [hgd]
  rw [hlt] at hbs
  have hw64:IntKind.u64.wrap ((i+j:Nat):Int)=((i+j:Nat):Int):=by simp [IntKind.wrap,IntKind.bits,IntKind.signed]; omega
  have hshr:∀ t,BvB t .shr (.int .u64 ((i+j:Nat):Int)) (.int .u64 ((1:Nat):Int))=some (.int .u64 ((m:Nat):Int)):=fun t=>by rw [BQt (by omega) (by omega),hm]
  have hm2:i≤m∧m<j:=by omega
  clear hm
  simp -dsimp (disch:=first | assumption | omega | (simp only [Btz];try omega)) only [↓BtC,Bty,BtA,BtB,eq_self,Nat.reduceEqDiff,↓reduceIte,reduceCtorEq,↓BtW,h,↓Bu9,hw64,hshr,↓Bva,hg,hgo]
  refine Bzz ((BWK (b:=b) (x:=x) (y:=y) (by omega) hb).calls (by simp [BuD,BuT]) fun r hr => ?_)
  subst hr
  generalize Lib.compareBytes (base.drop p) b=z at *
  by_cases hz:z<0
  ·rw [decide_eq_true hz,if_pos rfl] at hbs
   have hz0:z<((0:Nat):Int):=hz
   simp -dsimp (disch:=first | assumption | omega | (simp only [Btz];try omega)) only [↓BtC,Bty,BtA,BtB,eq_self,Nat.reduceEqDiff,↓reduceIte,reduceCtorEq,hz0]
   exact BtV (j - (m+1)) (by omega) (by simp) ⟨m+1,j,rfl,by omega,by omega,by rw [hbs]; exact BGm _ _ _ _ _ (by omega) (Nat.le_refl _),rfl,rfl⟩
  ·rw [decide_eq_false hz] at hbs
   simp only [Bool.false_eq_true,if_false] at hbs
   have hz0:¬ z<((0:Nat):Int):=hz
   simp -dsimp (disch:=first | assumption | omega | (simp only [Btz];try omega)) only [↓BtC,Bty,BtA,BtB,eq_self,Nat.reduceEqDiff,↓reduceIte,reduceCtorEq,hz0]
   exact BtV (m - i) (by omega) (by simp) ⟨i,m,rfl,by omega,by omega,by rw [hbs]; exact BGm _ _ _ _ _ (by omega) (Nat.le_refl _),rfl,rfl⟩
 ·have hij2:i=j:=by omega
  have h0:bsI (ltP base b ps) (j - i) i j=i:=by rw [show j - i=0 by omega,bsI]
  rw [h0] at hbs
  rw [hbs]
  by_cases hin:i<ps.length
  ·obtain ⟨p,hg⟩:∃ p,ps[i]?=some p:=⟨_,List.getElem?_eq_getElem hin⟩
   have hp:=hps p (List.mem_of_getElem? hg)
   simp -dsimp (disch:=first | assumption | omega | (simp only [Btz];try omega)) only [↓BtC,Bty,BtA,BtB,eq_self,Nat.reduceEqDiff,↓reduceIte,reduceCtorEq,↓BtW,h,↓Bui,hin,hg,hgo]
   refine Bzz ((BWK (b:=b) (x:=x) (y:=y) (by omega) hb).calls (by simp [BuD,BuT]) fun r hr => ?_)
   subst hr
   simp -dsimp (disch:=first | assumption | omega | (simp only [Btz];try omega)) only [↓BtC,Bty,BtA,BtB,eq_self,Nat.reduceEqDiff,↓reduceIte,↓Buy]
   exact ⟨_,rfl⟩
  ·simp -dsimp (disch:=first | assumption | omega | (simp only [Btz];try omega)) only [↓BtC,Bty,BtA,BtB,eq_self,Nat.reduceEqDiff,↓reduceIte,reduceCtorEq,↓BtW,h,↓Bui,hin,↓Buy]
   exact ⟨_,rfl⟩
end
section
open Go.RowKit
variable [Bt6]
def BJz (base:List UInt8) (fid:Nat) (H:List Ob):Prop :=
 (∃ (ps:List Nat) (k v cp:Nat),H[fid]?=some (.obj 0 (.agg [slB base,.os 1 k v [] 0 ps.length cp,.val (.map none)]))∧H[k]?=some (.obj v (.arr ps.length 1 (ps.map fun p:Nat=>i64 (p:Int))))∧(∀ p∈ps,p<base.length)∧ps.length≤1000000) ∨
 (∃ (mi:Nat) (es:List (List UInt8×TV)),H[fid]?=some (.obj 0 (.agg [slB base,.val (.slice none 0 0),.mp mi 0]))∧H[mi]?=some (.mpo (.arr 16) es)∧∀ key v,BBD key es=some v→∃ i:Nat,v=i64 (i:Int)∧i+16≤base.length)
def Mat (base b:List UInt8) (a n:Nat):Prop:=a+n≤base.length∧n≤b.length∧(base.drop a).take n=b.take n
theorem Mat.lcp {base b:List UInt8} {a:Nat} (h:a≤base.length):Mat base b a (lcp (base.drop a) b):=by
 have h1:=BR6 (base.drop a) b
 rw [List.length_drop] at h1
 exact ⟨by omega,h1.2,BLf _ _⟩
theorem Mat.zero {base b:List UInt8}:Mat base b 0 0:=⟨by omega,by omega,by simp⟩
theorem BQB {base b:List UInt8} (hbl:base.length≤1000000) (hb:b.length≤1000000) {fid:Nat} {H:List Ob} (hF:BJz base fid H) :
  BtJ Tryd.prog 15 [.op fid 0 [],slB b] H (fun x H'=>(∃ T,H'=H++T)∧∃ (a n:Nat),x = .tup [i64 (a:Int),i64 (n:Int)]∧Mat base b a n):=by
 refine BAI (by simp) ?_
 rcases hF with ⟨ps,k,v,cp,g1,g2,hps,hpl⟩ | ⟨mi,es,g1,g2,hes⟩
 ·have l1:=(List.getElem?_eq_some_iff.1 g1).1
  have l2:=(List.getElem?_eq_some_iff.1 g2).1
  have A0:∀ T:List Ob,(H++Ob.obj 0 (.op fid 0 [])::T)[H.length]?=some (.obj 0 (.op fid 0 [])):=fun T=>by simp
  have A1:∀ T:List Ob,(H++T)[fid]?=some (.obj 0 (.agg [slB base,.os 1 k v [] 0 ps.length cp,.val (.map none)])):=fun T=>by rw [List.getElem?_append_left l1]; exact g1
  have A2:∀ T:List Ob,(H++T)[k]?=some (.obj v (.arr ps.length 1 (ps.map fun p:Nat=>i64 (p:Int)))):=fun T=>by rw [List.getElem?_append_left l2]; exact g2
  have htk:(ps.map fun p:Nat=>i64 (p:Int)).take ps.length=ps.map fun p:Nat=>i64 (p:Int):=List.take_of_length_le (by simp)
  simp -dsimp (disch:=first | assumption | omega | (simp only [Btz];try omega)) only [↓BtC,Bty,BtA,BtB,eq_self,Nat.reduceEqDiff,↓reduceIte,Nat.reduceAdd,reduceCtorEq,↓BuY,↓BuE,A0,A1,↓BuP,↓Byy]
  obtain ⟨HH,hHH⟩:∃ HH,HH=H++[Ob.obj 0 (.op fid 0 [])]:=⟨_,rfl⟩
  have B0:HH[H.length]?=some (.obj 0 (.op fid 0 [])):=by rw [hHH]; exact A0 _
  have B1:HH[fid]?=some (.obj 0 (.agg [slB base,.os 1 k v [] 0 ps.length cp,.val (.map none)])):=by rw [hHH]; exact A1 _
  have B2:HH[k]?=some (.obj v (.arr ps.length 1 (ps.map fun p:Nat=>i64 (p:Int)))):=by rw [hHH]; exact A2 _
  have hfz:BUv HH [.os 1 k v [] 0 ps.length cp,slB b,.fn (.func 27) [] [.op H.length 0 []]]=some [psT ps,slB b,.fn (.func 27) [] [BXp base (psT ps) (.val (.map none))]]:=by
   simp [BUv,Bz4,BwF,BLV,B0,B1,B2,Bzf,Bvs,htk]
  rw [←hHH]
  refine Bzz ((B0s (b:=b) hps hpl hbl (x:=psT ps) (y := .val (.map none)) (by simp [BuT]) rfl).lends hfz fun r hr => ?_)
  obtain ⟨z,rfl⟩:=hr
  refine ⟨rfl,?_⟩
  have hbs:=BNp (ltP base b ps) ps.length 0 ps.length (Nat.zero_le _)
  generalize bsI (ltP base b ps) ps.length 0 ps.length=i at *
  have hi1 : -9223372036854775808≤(i:Int) - ((1:Nat):Int):=by omega
  simp -dsimp (disch:=first | assumption | omega | (simp only [Btz];try omega)) only [↓BtC,Bty,BtA,BtB,eq_self,Nat.reduceEqDiff,↓reduceIte,Nat.reduceLeDiff,↓Byv,↓Byw]
  obtain ⟨row,hrow⟩:∃ row,row=Ob.obj 0 (.arr 2 1 [i64 ((i:Int) - ((1:Nat):Int)),i64 (i:Int)]):=⟨_,rfl⟩
  refine Byl (fun q e H2=>∃ (x a n:Nat) (T:List Ob),q=2 - x∧x≤2∧Mat base b a n∧H2=HH++row::T ∧
   e=[(1,slB b),(2,.op H.length 0 []),(4,i64 (a:Int)),(5,i64 (n:Int)),(56,.os 1 HH.length 0 [] 0 2 2),(57,i64 ((2:Nat):Int)),(58,i64 (x:Int))]) 2 ?_ ?_
  ·exact ⟨0,0,0,[],rfl,by omega,Mat.zero,by rw [hrow]; rfl,rfl⟩
  rintro q e H2 ⟨x,a,n,T,rfl,hx,hM,rfl,rfl⟩
  have C0:∀ T,(HH++T)[H.length]?=some (.obj 0 (.op fid 0 [])):=fun T=>by rw [List.getElem?_append_left (List.getElem?_eq_some_iff.1 B0).1]; exact B0
  have C1:∀ T,(HH++T)[fid]?=some (.obj 0 (.agg [slB base,.os 1 k v [] 0 ps.length cp,.val (.map none)])):=fun T=>by rw [List.getElem?_append_left (List.getElem?_eq_some_iff.1 B1).1]; exact B1
  have C2:∀ T,(HH++T)[k]?=some (.obj v (.arr ps.length 1 (ps.map fun p:Nat=>i64 (p:Int)))):=fun T=>by rw [List.getElem?_append_left (List.getElem?_eq_some_iff.1 B2).1]; exact B2
  have C3:(HH++row::T)[HH.length]?=some (.obj 0 (.arr 2 1 [i64 ((i:Int) - ((1:Nat):Int)),i64 (i:Int)])):=by rw [←hrow]; simp
  have hMn:=hM.2.1
  have hMa:=hM.1
  by_cases hx2:x<2
  case neg =>
   simp -dsimp (disch:=first | assumption | omega | (simp only [Btz];try omega)) only [↓BtC,Bty,BtA,BtB,eq_self,Nat.reduceEqDiff,↓reduceIte,↓Bud,hx2,↓Bub,↓Byx,↓BuC]
   exact ⟨⟨_,by rw [hHH,List.append_assoc]⟩,a,n,rfl,hM⟩
  obtain ⟨jv,hjv,hjr⟩:∃ jv:Int,[i64 ((i:Int) - ((1:Nat):Int)),i64 (i:Int)][x]?=some (i64 jv) ∧ -1≤jv∧jv≤(i:Int):=by
   rcases (by omega:x=0∨x=1) with h | h<;>subst h
   ·exact ⟨_,rfl,by omega,by omega⟩
   ·exact ⟨_,rfl,by omega,by omega⟩
  by_cases hneg:jv<0
  ·have hj0:¬ ((0:Nat):Int)≤jv:=by omega
   simp -dsimp (disch:=first | assumption | omega | (simp only [Btz];try omega)) only [↓BtC,Bty,BtA,BtB,eq_self,Nat.reduceEqDiff,↓reduceIte,↓Bud,hx2,↓Bub,↓BuF,C3,hjv,↓BuO,hj0,↓BuL]
   exact BtV (2 - (x+1)) (by omega) (by simp) ⟨x+1,a,n,T,rfl,by omega,hM,rfl,rfl⟩
  obtain ⟨m,rfl⟩:=Int.eq_ofNat_of_zero_le (by omega:0≤jv)
  by_cases hml:m<ps.length
  case neg =>
   simp -dsimp (disch:=first | assumption | omega | (simp only [Btz];try omega)) only [↓BtC,Bty,BtA,BtB,eq_self,Nat.reduceEqDiff,↓reduceIte,Nat.reduceAdd,↓Bud,hx2,↓Bub,↓BuF,C3,hjv,↓BuO,C0,C1,hml,↓BuL]
   exact BtV (2 - (x+1)) (by omega) (by simp) ⟨x+1,a,n,T,rfl,by omega,hM,rfl,rfl⟩
  obtain ⟨p,hg⟩:∃ p,ps[m]?=some p:=⟨_,List.getElem?_eq_getElem hml⟩
  have hp:=hps p (List.mem_of_getElem? hg)
  have hdl:(base.drop p).length=base.length - p:=List.length_drop
  simp -dsimp (disch:=first | assumption | omega | (simp only [Btz];try omega)) only [↓BtC,Bty,BtA,BtB,eq_self,Nat.reduceEqDiff,↓reduceIte,Nat.reduceAdd,↓Bud,hx2,↓Bub,↓BuF,C3,hjv,↓BuO,C0,C1,C2,hml,↓BuL,↓ByU,hg]
  refine Bzz ((BM4 (base.drop p) b (by omega) hb).calls (by simp [BuD,BuT]) fun r hr => ?_)
  subst hr
  have hMl:=Mat.lcp (base:=base) (b:=b) (a:=p) (by omega)
  have hMl2:=hMl.2.1
  generalize lcp (base.drop p) b=kk at *
  by_cases hgt:n<kk
  ·simp -dsimp (disch:=first | assumption | omega | (simp only [Btz];try omega)) only [↓BtC,Bty,BtA,BtB,eq_self,Nat.reduceEqDiff,↓reduceIte,Nat.reduceAdd,↓BvD,hgt,↓ByV,C0,C1,C2,hg]
   exact BtV (2 - (x+1)) (by omega) (by simp) ⟨x+1,p,kk,T,rfl,by omega,hMl,rfl,rfl⟩
  ·simp -dsimp (disch:=first | assumption | omega | (simp only [Btz];try omega)) only [↓BtC,Bty,BtA,BtB,eq_self,Nat.reduceEqDiff,↓reduceIte,↓BvD,hgt]
   exact BtV (2 - (x+1)) (by omega) (by simp) ⟨x+1,a,n,T,rfl,by omega,hM,rfl,rfl⟩
 ·have l1:=(List.getElem?_eq_some_iff.1 g1).1
  have l2:=(List.getElem?_eq_some_iff.1 g2).1
  have A0:∀ T:List Ob,(H++Ob.obj 0 (.op fid 0 [])::T)[H.length]?=some (.obj 0 (.op fid 0 [])):=fun T=>by simp
  have A1:∀ T:List Ob,(H++T)[fid]?=some (.obj 0 (.agg [slB base,.val (.slice none 0 0),.mp mi 0])):=fun T=>by rw [List.getElem?_append_left l1]; exact g1
  have A2:∀ T:List Ob,(H++T)[mi]?=some (.mpo (.arr 16) es):=fun T=>by rw [List.getElem?_append_left l2]; exact g2
  by_cases h16:b.length<16
  ·simp -dsimp (disch:=first | assumption | omega | (simp only [Btz];try omega)) only [↓BtC,Bty,BtA,BtB,eq_self,Nat.reduceEqDiff,↓reduceIte,Nat.reduceAdd,reduceCtorEq,↓BuY,↓BuE,A0,A1,↓BuP,↓BvG,h16,↓BuC]
   exact ⟨⟨_,rfl⟩,0,0,rfl,Mat.zero⟩
  have ht16:(b.take 16).length=16:=by rw [List.length_take]; omega
  simp -dsimp (disch:=first | assumption | omega | (simp only [Btz];try omega)) only [↓BtC,Bty,BtA,BtB,eq_self,Nat.reduceLT,Nat.reduceEqDiff,↓reduceIte,Nat.reduceAdd,reduceCtorEq,↓BuY,↓BuE,A0,A1,↓BuP,↓BvG,h16,↓ByN,A2]
  cases hg:BBD (b.take 16) es with
  | none =>
   simp -dsimp (disch:=first | assumption | omega | (simp only [Btz];try omega)) only [↓BtC,Bty,BtA,BtB,eq_self,Nat.reduceEqDiff,↓reduceIte,↓BvA,Option.isSome_none,↓BuC]
   exact ⟨⟨_,rfl⟩,0,0,rfl,Mat.zero⟩
  | some y =>
   obtain ⟨i,rfl,hi⟩:=hes _ _ hg
   have hdl:(base.drop i).length=base.length - i:=List.length_drop
   have hMl:=Mat.lcp (base:=base) (b:=b) (a:=i) (by omega)
   simp -dsimp (disch:=first | assumption | omega | (simp only [Btz];try omega)) only [↓BtC,Bty,BtA,BtB,eq_self,Nat.reduceEqDiff,↓reduceIte,↓BvA,Option.isSome_some,A0,A1]
   refine Bzz ((BM4 (base.drop i) b (by omega) hb).calls (by simp [BuD,BuT]) fun r hr => ?_)
   subst hr
   simp -dsimp (disch:=first | assumption | omega | (simp only [Btz];try omega)) only [↓BtC,Bty,BtA,BtB,eq_self,Nat.reduceEqDiff,↓reduceIte,↓BuC]
   exact ⟨⟨_,rfl⟩,i,_,rfl,hMl⟩
end
section
open Go.RowKit Go.Sort
variable [Bt6]
abbrev Bv5 (l:List Nat):List TV:=l.map fun p:Nat=>i64 (p:Int)
structure BD0 (H0 H:List Ob) (n kr kn:Nat) (ps ranks nexts:List Nat):Prop where
 pre:∀ i,i<H0.length→H[i]?=H0[i]?
 len:H0.length+5≤H.length
 on:H[H0.length]?=some (.obj 0 (i64 (n:Int)))
 ol:H[H0.length+1]?=some (.obj 0 (.arr n 1 (Bv5 ps)))
 oc:H[H0.length+4]?=some (.obj 0 (.os 1 kr 0 [] 0 n n))
 orr:H[kr]?=some (.obj 0 (.arr n 1 (Bv5 ranks)))
 ox:H[kn]?=some (.obj 0 (.arr n 1 (Bv5 nexts)))
 kk:(kr=H0.length+2∧kn=H0.length+3)∨(kr=H0.length+3∧kn=H0.length+2)
 pl:ps.length=n
 rl:ranks.length=n
 xl:nexts.length=n
 rb:∀ a∈ranks,a≤1000000
 xb:∀ a∈nexts,a≤1000000
theorem BD0.more {H0 H:List Ob} {n kr kn:Nat} {ps ranks nexts:List Nat} (h:BD0 H0 H n kr kn ps ranks nexts) (T:List Ob):BD0 H0 (H++T) n kr kn ps ranks nexts:=by
 have hl:=h.len
 have hk:=h.kk
 have e:∀ i,i<H.length→(H++T)[i]?=H[i]?:=fun i hi=>List.getElem?_append_left hi
 exact ⟨fun i hi=>(e i (by omega)).trans (h.pre i hi),by simp; omega,(e _ (by omega)).trans h.on,(e _ (by omega)).trans h.ol,(e _ (by omega)).trans h.oc,(e _ (by omega)).trans h.orr,(e _ (by omega)).trans h.ox,h.kk,h.pl,h.rl,h.xl,h.rb,h.xb⟩
theorem BD0.upd {H0 H:List Ob} {n kr kn:Nat} {ps ranks nexts:List Nat} (h:BD0 H0 H n kr kn ps ranks nexts) {id:Nat} {o:Ob} (h1:id≠H0.length) (h2:H0.length≤id) {ps' ranks' nexts':List Nat}
  (g1:(H.set id o)[H0.length+1]?=some (.obj 0 (.arr n 1 (Bv5 ps')))) (g2:(H.set id o)[H0.length+4]?=some (.obj 0 (.os 1 kr 0 [] 0 n n))) (g3:(H.set id o)[kr]?=some (.obj 0 (.arr n 1 (Bv5 ranks')))) (g4:(H.set id o)[kn]?=some (.obj 0 (.arr n 1 (Bv5 nexts'))))
  (q1:ps'.length=n) (q2:ranks'.length=n) (q3:nexts'.length=n) (q4:∀ a∈ranks',a≤1000000) (q5:∀ a∈nexts',a≤1000000):BD0 H0 (H.set id o) n kr kn ps' ranks' nexts' :=
 ⟨fun i hi=>by rw [List.getElem?_set_ne (by omega)]; exact h.pre i hi,by rw [List.length_set]; exact h.len,by rw [List.getElem?_set_ne h1]; exact h.on,g1,g2,g3,g4,h.kk,q1,q2,q3,q4,q5⟩
theorem BD0.setL {H0 H:List Ob} {n kr kn:Nat} {ps ranks nexts:List Nat} (h:BD0 H0 H n kr kn ps ranks nexts) {ps':List Nat} (hl:ps'.length=n):BD0 H0 (H.set (H0.length+1) (.obj 0 (.arr n 1 (Bv5 ps')))) n kr kn ps' ranks nexts:=by
 have hk:=h.kk
 have hlen:=h.len
 exact h.upd (by omega) (by omega) (by rw [List.getElem?_set_self (by omega)]) (by rw [List.getElem?_set_ne (by omega)]; exact h.oc) (by rw [List.getElem?_set_ne (by omega)]; exact h.orr) (by rw [List.getElem?_set_ne (by omega)]; exact h.ox) hl h.rl h.xl h.rb h.xb
theorem BD0.setR {H0 H:List Ob} {n kr kn:Nat} {ps ranks nexts:List Nat} (h:BD0 H0 H n kr kn ps ranks nexts) {r':List Nat} (hl:r'.length=n) (hb:∀ a∈r',a≤1000000):BD0 H0 (H.set kr (.obj 0 (.arr n 1 (Bv5 r')))) n kr kn ps r' nexts:=by
 have hk:=h.kk
 have hlen:=h.len
 exact h.upd (by omega) (by omega) (by rw [List.getElem?_set_ne (by omega)]; exact h.ol) (by rw [List.getElem?_set_ne (by omega)]; exact h.oc) (by rw [List.getElem?_set_self (by omega)]) (by rw [List.getElem?_set_ne (by omega)]; exact h.ox) h.pl hl h.xl hb h.xb
theorem BD0.setX {H0 H:List Ob} {n kr kn:Nat} {ps ranks nexts:List Nat} (h:BD0 H0 H n kr kn ps ranks nexts) {r':List Nat} (hl:r'.length=n) (hb:∀ a∈r',a≤1000000):BD0 H0 (H.set kn (.obj 0 (.arr n 1 (Bv5 r')))) n kr kn ps ranks r':=by
 have hk:=h.kk
 have hlen:=h.len
 exact h.upd (by omega) (by omega) (by rw [List.getElem?_set_ne (by omega)]; exact h.ol) (by rw [List.getElem?_set_ne (by omega)]; exact h.oc) (by rw [List.getElem?_set_ne (by omega)]; exact h.orr) (by rw [List.getElem?_set_self (by omega)]) h.pl h.rl hl h.rb hb
theorem BD0.swap {H0 H:List Ob} {n kr kn:Nat} {ps ranks nexts:List Nat} (h:BD0 H0 H n kr kn ps ranks nexts):BD0 H0 (H.set (H0.length+4) (.obj 0 (.os 1 kn 0 [] 0 n n))) n kn kr ps nexts ranks:=by
 have hk:=h.kk
 have hlen:=h.len
 exact ⟨fun i hi=>by rw [List.getElem?_set_ne (by omega)]; exact h.pre i hi,by rw [List.length_set]; exact h.len,by rw [List.getElem?_set_ne (by omega)]; exact h.on,by rw [List.getElem?_set_ne (by omega)]; exact h.ol,by rw [List.getElem?_set_self (by omega)],by rw [List.getElem?_set_ne (by omega)]; exact h.ox,by rw [List.getElem?_set_ne (by omega)]; exact h.orr,by omega,h.pl,h.xl,h.rl,h.xb,h.rb⟩
theorem BGZ {l:List Nat} {i a:Nat}:(Bv5 l).set i (i64 (a:Int))=Bv5 (l.set i a):=by unfold Bv5; rw [List.map_set]
theorem BXA {l:List Nat} {i a B:Nat} (h:∀ x∈l,x≤B) (ha:a≤B):∀ x∈l.set i a,x≤B:=fun x hx=>by
 rcases List.mem_or_eq_of_mem_set hx with h1 | h1
 ·exact h x h1
 ·omega
abbrev BXT (ranks:List Nat) (k n x y:Nat):Int:=cfR (fun j=>((ranks.getD j 0:Nat):Int)) k n x y
def dnP (ranks ps:List Nat) (k n:Nat):Nat→Nat
 | 0=>0
 | i+1=>dnP ranks ps k n i+(if BXT ranks k n (ps.getD i 0) (ps.getD (i+1) 0)=0 then 0 else 1)
theorem BSd {ranks ps:List Nat} {k n:Nat}:∀ i,dnP ranks ps k n i≤i
 | 0=>Nat.le_refl _
 | i+1=>by have:=BSd (ranks:=ranks) (ps:=ps) (k:=k) (n:=n) i; rw [dnP]; split<;>omega
def BAA (ranks:List Nat) (k n:Nat) (ps:List Nat):Prop:=ps.Pairwise fun x y=>¬ BXT ranks k n y x<0
theorem BR4 {M:Nat}:∀ {ps:List Nat},(∀ p∈ps,p<M+1)→∃ d:List (Fin (M+1)),d.map (fun x=>x.val)=ps
 | [],_=>⟨[],rfl⟩
 | p::ps,h=>by
  obtain ⟨d,hd⟩:=BR4 (M:=M) (ps:=ps) fun q hq=>h q (by simp [hq])
  exact ⟨⟨p,h p (by simp)⟩::d,by rw [List.map_cons,hd]⟩
end
section
open Go.RowKit Go.Sort
variable [Bt6]
theorem BJp {α:Type} {l:List α} {i n:Nat} {a z x:α} (hl:l.length=i) (h:i<n):(l++List.replicate (n - i) z).set i x=(l++[x])++List.replicate (n - (i+1)) z:=by
 rw [List.set_append_right _ _ (by omega),hl,Nat.sub_self,show n - i=(n - (i+1))+1 by omega,List.replicate_succ,List.set_cons_zero,List.append_assoc]; rfl
set_option maxRecDepth 100000 in
theorem BMb {b:List UInt8} (hb:b.length≤20000) {H0:List Ob} {Q:VEx→Env→List Ob→Prop}
  {H:List Ob} (h:BD0 H0 H b.length (H0.length+2) (H0.length+3) (List.replicate b.length 0) (List.replicate b.length 0) (List.replicate b.length 0))
  (hK:∀ H2,H2.length=H.length→BD0 H0 H2 b.length (H0.length+2) (H0.length+3) (List.range b.length) (b.map UInt8.toNat) (List.replicate b.length 0)→vwp Tryd.prog Bvx Q [(0,slB b),(3,.op H0.length 0 []),(4,.os 1 (H0.length+1) 0 [] 0 b.length b.length),(5,.op (H0.length+4) 0 []),(6,.os 1 (H0.length+3) 0 [] 0 b.length b.length),(20,i64 (b.length:Int)),(21,i64 (b.length:Int))] H2) :
  vwp Tryd.prog Bvw Q [(0,slB b),(3,.op H0.length 0 []),(4,.os 1 (H0.length+1) 0 [] 0 b.length b.length),(5,.op (H0.length+4) 0 []),(6,.os 1 (H0.length+3) 0 [] 0 b.length b.length)] H:=by
 have q:=h.on
 simp -dsimp (disch:=first | assumption | omega | (simp only [Btz];try omega)) only [↓BtC,Bty,BtA,BtB,eq_self,Nat.reduceEqDiff,↓reduceIte,reduceCtorEq,q,↓BCF,↓BDr]
 refine Byl (fun m e H2=>∃ (i:Nat),m=b.length - i∧i≤b.length∧H2.length=H.length∧BD0 H0 H2 b.length (H0.length+2) (H0.length+3) (List.range i++List.replicate (b.length - i) 0) ((b.take i).map UInt8.toNat++List.replicate (b.length - i) 0) (List.replicate b.length 0) ∧
  e=[(0,slB b),(3,.op H0.length 0 []),(4,.os 1 (H0.length+1) 0 [] 0 b.length b.length),(5,.op (H0.length+4) 0 []),(6,.os 1 (H0.length+3) 0 [] 0 b.length b.length),(20,i64 (b.length:Int)),(21,i64 (i:Int))]) b.length ?_ ?_
 ·exact ⟨0,rfl,Nat.zero_le _,rfl,by simpa using h,rfl⟩
 rintro m e H2 ⟨i,rfl,hi,hlen,h2,rfl⟩
 by_cases hib:i<b.length
 ·obtain ⟨x,hg⟩:∃ x,b[i]?=some x:=⟨_,List.getElem?_eq_getElem hib⟩
  have ql:=h2.ol
  have qc:=h2.oc
  have qr:=h2.orr
  have hl2:=h2.len
  have hlx:=h2.pl
  have hrl:=h2.rl
  have hti:((b.take i).map UInt8.toNat).length=i:=by simp; omega
  have hx0:(List.range i++List.replicate (b.length - i) 0)[i]?=some 0:=by rw [List.getElem?_append_right (by simp),List.length_range,Nat.sub_self,List.getElem?_replicate,if_pos (by omega)]
  have hr0:((b.take i).map UInt8.toNat++List.replicate (b.length - i) 0)[i]?=some 0:=by rw [List.getElem?_append_right (by omega),hti,Nat.sub_self,List.getElem?_replicate,if_pos (by omega)]
  have hwi:∀ a:Int,BtL (i64 a)=1:=fun _=>BuM
  have e1:=BJp (l:=List.range i) (n:=b.length) (z:=0) (a:=0) (x:=i) (by simp) hib
  have e2:=BJp (l:=(b.take i).map UInt8.toNat) (n:=b.length) (z:=0) (a:=0) (x:=x.toNat) hti hib
  rw [←List.range_succ] at e1
  rw [show (b.take i).map UInt8.toNat++[x.toNat]=(b.take (i+1)).map UInt8.toNat by rw [List.take_add_one,hg,List.map_append]; rfl] at e2
  have hxb:x.toNat≤1000000:=by have:=x.toNat_lt; omega
  have hnew:=(h2.setL (ps':=List.range (i+1)++List.replicate (b.length - (i+1)) 0) (by simp; omega)).setR (r':=(b.take (i+1)).map UInt8.toNat++List.replicate (b.length - (i+1)) 0) (by simp; omega) (by rw [←e2]; exact BXA h2.rb hxb)
  generalize hX:List.range i++List.replicate (b.length - i) 0=X at *
  generalize hY:(b.take i).map UInt8.toNat++List.replicate (b.length - i) 0=Y at *
  simp -dsimp (disch:=first | assumption | omega | (simp only [Btz];try omega)) only [↓BtC,Bty,BtA,BtB,eq_self,Nat.reduceEqDiff,Nat.reduceMod,↓reduceIte,reduceCtorEq,↓ByS,hib,↓ByF,↓BDC,↓BDK,hg,ql,qc,qr,hx0,hr0,hwi]
  have hkk:∀ (e:Env) (u:TV) (Hx:List Ob) (j:Nat) (o:Ob),get e 5 = .op (H0.length+4) 0 []→get e 31 = .fp u→j≠H0.length+4→BBw [5,31] e Hx (Hx.set j o):=fun e u Hx j o h5 h31 hj =>
   BUp h5 (List.getElem?_set_ne hj) (BSB (by rw [h31]) BPm)
  refine ⟨⟨?_,?_⟩,?_⟩
  rotate_left
  ·change BBw [5,31] _ _ _; exact hkk _ (by8 x) _ _ _ (by simp [get]) (by simp [get]) (by omega)
  ·change BBw [5,31] _ _ _; exact hkk _ (by8 x) _ _ _ (by simp [get]) (by simp [get]) (by omega)
  have f1:(TV.val (Value.int IntKind.i64 (x.toNat:Int)))=i64 (x.toNat:Int):=rfl
  rw [f1,BGZ,BGZ,e1,e2]
  exact BtV (b.length - (i+1)) (by omega) (by simp; omega) ⟨i+1,rfl,by omega,by simp [hlen],hnew,by simp [forget,get]⟩
 ·have hi2:i=b.length:=by omega
  subst hi2
  have:=hK H2 hlen (by simpa using h2)
  simp -dsimp (disch:=first | assumption | omega | (simp only [Btz];try omega)) only [↓BtC,Bty,BtA,BtB,eq_self,Nat.reduceEqDiff,↓reduceIte,reduceCtorEq,↓ByS,↓ByF]
  exact this
end
section
open Go.RowKit Go.Sort
variable [Bt6]
abbrev fnP (H0 k8:Nat):TV := .fn (.func 35) [] [.op (H0+4) 0 [],.op k8 0 [],.op H0 0 []]
theorem BK4:BEV Tryd.prog 35=true:=Btv (by kernel_rfl)
theorem BNG {l:List Nat} {i:Nat} (h:i<l.length):l[i]?=some (l.getD i 0):=by rw [List.getD_eq_getElem?_getD,List.getElem?_eq_getElem h]; rfl
theorem BzC {l:List Nat} {i x:Nat} (h:l[i]?=some x):l.getD i 0=x:=by rw [List.getD_eq_getElem?_getD,h]; rfl
set_option maxRecDepth 100000 in
theorem BMd {n:Nat} (hn:n≤20000) {k:Nat} (hk:k≤40000) {H0:List Ob} {Q:VEx→Env→List Ob→Prop} {kr kn k8:Nat} {ps ranks nexts:List Nat} (hps:ps.Perm (List.range n))
  {H:List Ob} (h:BD0 H0 H n kr kn ps ranks nexts) (h8:H0.length+5≤k8) (g8:H[k8]?=some (.obj 0 (i64 (k:Int))))
  (hK:∀ H2 nexts',H2.length=H.length→BD0 H0 H2 n kr kn ps ranks nexts'→H2[k8]?=some (.obj 0 (i64 (k:Int)))→(∀ i,i<n→nexts'.getD (ps.getD i 0) 0=dnP ranks ps k n i) →
   vwp Tryd.prog BwN Q [(3,.op H0.length 0 []),(4,.os 1 (H0.length+1) 0 [] 0 n n),(5,.op (H0.length+4) 0 []),(6,.os 1 kn 0 [] 0 n n),(8,.op k8 0 []),(9,fnP H0.length k8),(44,.os 1 (H0.length+1) 0 [] 0 n n),(45,i64 (n:Int)),(46,i64 (n:Int))] H2) :
  vwp Tryd.prog BwV Q [(3,.op H0.length 0 []),(4,.os 1 (H0.length+1) 0 [] 0 n n),(5,.op (H0.length+4) 0 []),(6,.os 1 kn 0 [] 0 n n),(8,.op k8 0 []),(9,fnP H0.length k8)] H:=by
 have hpn:∀ i x,ps[i]?=some x→x<n:=fun i x hx=>by
  have:=hps.mem_iff.1 (List.mem_of_getElem? hx)
  simpa using this
 have hnd:∀ i j x,ps[i]?=some x→ps[j]?=some x→i=j:=fun i j x hi hj=>by
  have hd:ps.Nodup:=hps.nodup_iff.2 List.nodup_range
  obtain ⟨hi1,hi2⟩:=List.getElem?_eq_some_iff.1 hi
  obtain ⟨hj1,hj2⟩:=List.getElem?_eq_some_iff.1 hj
  rcases Nat.lt_trichotomy i j with hlt | he | hlt
  ·exact absurd (hi2.trans hj2.symm) (List.pairwise_iff_getElem.1 hd i j hi1 hj1 hlt)
  ·exact he
  ·exact absurd (hj2.trans hi2.symm) (List.pairwise_iff_getElem.1 hd j i hj1 hi1 hlt)
 simp -dsimp (disch:=first | assumption | omega | (simp only [Btz];try omega)) only [↓BtC,Bty,BtA,BtB,eq_self,Nat.reduceEqDiff,↓reduceIte,↓BCM,↓BCP]
 refine Byl (fun m e H2=>∃ (j:Nat) (nexts':List Nat),m=n - j∧j≤n∧H2.length=H.length∧BD0 H0 H2 n kr kn ps ranks nexts'∧H2[k8]?=some (.obj 0 (i64 (k:Int)))∧(∀ i,i<j→nexts'.getD (ps.getD i 0) 0=dnP ranks ps k n i) ∧
  e=[(3,.op H0.length 0 []),(4,.os 1 (H0.length+1) 0 [] 0 n n),(5,.op (H0.length+4) 0 []),(6,.os 1 kn 0 [] 0 n n),(8,.op k8 0 []),(9,fnP H0.length k8),(44,.os 1 (H0.length+1) 0 [] 0 n n),(45,i64 (n:Int)),(46,i64 (j:Int))]) n ?_ ?_
 ·exact ⟨0,nexts,rfl,Nat.zero_le _,rfl,h,g8,fun i hi=>by omega,rfl⟩
 rintro m e H2 ⟨j,nx,rfl,hj,hlen,h2,g2,hd,rfl⟩
 by_cases hjn:j<n
 ·have ql:=h2.ol
  have qx:=h2.ox
  have hkk:=h2.kk
  have hl2:=h2.len
  have hpl:=h2.pl
  have hxl:=h2.xl
  have h8l:k8<H2.length:=(List.getElem?_eq_some_iff.1 g2).1
  obtain ⟨x,hx⟩:∃ x,ps[j]?=some x:=⟨_,List.getElem?_eq_getElem (by omega)⟩
  have hxn:=hpn j x hx
  obtain ⟨nx0,hnx0⟩:∃ y,nx[x]?=some y:=⟨_,List.getElem?_eq_getElem (by omega)⟩
  have hwi:∀ a:Int,BtL (i64 a)=1:=fun _=>BuM
  have s1:=h2.setX (r':=nx.set x 0) (by simp; omega) (BXA h2.xb (by omega))
  simp -dsimp (disch:=first | assumption | omega | (simp only [Btz];try omega)) only [↓BtC,Bty,BtA,BtB,eq_self,Nat.reduceEqDiff,↓reduceIte,↓Byt,hjn,↓Byp,↓BCL,↓BCU,hx,hnx0,hwi,ql,qx]
  have f0:∀ (l:List Nat) (y a:Nat),(Bv5 l).set y (TV.val (Value.int IntKind.i64 (a:Int)))=Bv5 (l.set y a):=fun _ _ _=>BGZ
  rw [f0]
  have g3:(H2.set kn (.obj 0 (.arr n 1 (Bv5 (nx.set x 0)))))[k8]?=some (.obj 0 (i64 (k:Int))):=by rw [List.getElem?_set_ne (by omega)]; exact g2
  have l3:(H2.set kn (.obj 0 (.arr n 1 (Bv5 (nx.set x 0))))).length=H.length:=by rw [List.length_set]; exact hlen
  generalize H2.set kn (.obj 0 (.arr n 1 (Bv5 (nx.set x 0))))=H3 at *
  have hxs:(nx.set x 0)[x]?=some 0:=List.getElem?_set_self (by omega)
  have hget:∀ i y a,i<j→ps[i]?=some y→(nx.set x a).getD y 0=nx.getD y 0:=fun i y a hi hy=>by
   rw [List.getD_eq_getElem?_getD,List.getD_eq_getElem?_getD,List.getElem?_set_ne (fun e=>by subst e; have:=hnd i j x hy hx; omega)]
  -- what the round is to show
  have fin:∀ (H4:List Ob) (nx4:List Nat),H4.length=H.length→BD0 H0 H4 n kr kn ps ranks nx4→H4[k8]?=some (.obj 0 (i64 (k:Int)))→(∀ i,i<j→nx4.getD (ps.getD i 0) 0=nx.getD (ps.getD i 0) 0)→nx4.getD x 0=dnP ranks ps k n j→∀ i,i<j+1→nx4.getD (ps.getD i 0) 0=dnP ranks ps k n i:=by
   intro H4 nx4 _ _ _ ho hnew i hi
   by_cases e:i=j
   ·subst e; rw [BzC hx]; exact hnew
   ·rw [ho i (by omega)]; exact hd i (by omega)
  by_cases hj0:j=0
  ·subst hj0
   simp -dsimp (disch:=first | assumption | omega | (simp only [Btz];try omega)) only [↓BtC,Bty,BtA,BtB,eq_self,Nat.reduceLT,Nat.reduceEqDiff,↓reduceIte,↓Byg,↓ByD]
   exact BtV (n - 1) (by omega) (by omega) ⟨1,nx.set x 0,rfl,by omega,l3,s1,g3,fin H3 _ l3 s1 g3 (fun i hi=>by omega) (by rw [BzC hxs,dnP]),rfl⟩
  ·obtain ⟨i,rfl⟩:∃ i,j=i+1:=⟨j - 1,by omega⟩
   obtain ⟨p,hp⟩:∃ p,ps[i]?=some p:=⟨_,List.getElem?_eq_getElem (by omega)⟩
   have hpn2:=hpn i p hp
   have hpx:x≠p:=fun e=>by subst e; have:=hnd i (i+1) x hp hx; omega
   have hpi:nx.getD p 0=dnP ranks ps k n i:=by have:=hd i (by omega); rw [BzC hp] at this; exact this
   have hd4:dnP ranks ps k n i≤i:=BSd i
   obtain ⟨d,hdp⟩:∃ d,nx[p]?=some d:=⟨_,List.getElem?_eq_getElem (by omega)⟩
   rw [BzC hdp] at hpi
   have hdp2:(nx.set x 0)[p]?=some d:=by rw [List.getElem?_set_ne hpx]; exact hdp
   have q3l:=s1.ol
   have q3x:=s1.ox
   have h3xl:=s1.xl
   have s4:=s1.setX (r':=(nx.set x 0).set x d) (by simp; omega) (BXA s1.xb (by omega))
   have hjs:∀ t,BvB t .sub (.int .i64 ((i+1:Nat):Int)) (.int .i64 ((1:Nat):Int))=some (.int .i64 (i:Int)):=fun t=>by rw [BWu (by omega) (by omega)]; congr 2; omega
   simp -dsimp (disch:=first | assumption | omega | (simp only [Btz];try omega)) only [↓BtC,Bty,BtA,BtB,eq_self,Nat.reduceEqDiff,↓reduceIte,↓Byg,↓ByD,↓BDM,hjs,hp,q3l,q3x,hdp2,hxs,hwi]
   rw [f0]
   rw [List.set_set] at s4 ⊢
   have g4:(H3.set kn (.obj 0 (.arr n 1 (Bv5 (nx.set x d)))))[k8]?=some (.obj 0 (i64 (k:Int))):=by rw [List.getElem?_set_ne (by omega)]; exact g3
   have l4:(H3.set kn (.obj 0 (.arr n 1 (Bv5 (nx.set x d))))).length=H.length:=by rw [List.length_set]; exact l3
   generalize H3.set kn (.obj 0 (.arr n 1 (Bv5 (nx.set x d))))=H4 at *
   have q4l:=s4.ol
   have q4x:=s4.ox
   simp -dsimp (disch:=first | assumption | omega | (simp only [Btz];try omega)) only [↓BtC,Bty,BtA,BtB,eq_self,Nat.reduceEqDiff,↓reduceIte,↓BDU,hjs,hp,q4l]
   refine ⟨BK4,?_⟩
   refine Bzz (BKJ (k:=k) s4.rl s4.rb (by omega) (by omega) hpn2 hxn s4.oc s4.orr g4 s4.on ?_)
   have hxd:(nx.set x d)[x]?=some d:=List.getElem?_set_self (by omega)
   by_cases hc:BXT ranks k n p x=0
   ·have hdn:dnP ranks ps k n (i+1)=d:=by rw [dnP,BzC hp,BzC hx,if_pos hc,hpi]; omega
    rw [show cfR (fun j=>((ranks.getD j 0:Nat):Int)) k n p x=0 from hc]
    simp -dsimp (disch:=first | assumption | omega | (simp only [Btz];try omega)) only [↓BtC,Bty,BtA,BtB,eq_self,Nat.reduceEqDiff,↓reduceIte]
    exact BtV (n - (i+2)) (by omega) (by omega) ⟨i+2,nx.set x d,rfl,by omega,l4,s4,g4,fin H4 _ l4 s4 g4 (fun i2 hi2=>hget i2 _ d hi2 (BNG (by omega))) (by rw [BzC hxd,hdn]),rfl⟩
   ·have hdn:dnP ranks ps k n (i+1)=d+1:=by rw [dnP,BzC hp,BzC hx,if_neg hc,hpi]
    have hc2:cfR (fun j=>((ranks.getD j 0:Nat):Int)) k n p x≠0:=hc
    generalize cfR (fun j=>((ranks.getD j 0:Nat):Int)) k n p x=C at *
    have s5:=s4.setX (r':=(nx.set x d).set x (d+1)) (by simp; omega) (BXA s4.xb (by omega))
    have h4xl:=s4.xl
    simp -dsimp (disch:=first | assumption | omega | (simp only [Btz];try omega)) only [↓BtC,Bty,BtA,BtB,eq_self,Nat.reduceEqDiff,↓reduceIte,↓BDx,q4x,hxd,hwi]
    rw [f0]
    rw [List.set_set] at s5 ⊢
    have g5:(H4.set kn (.obj 0 (.arr n 1 (Bv5 (nx.set x (d+1))))))[k8]?=some (.obj 0 (i64 (k:Int))):=by rw [List.getElem?_set_ne (by omega)]; exact g4
    have l5:(H4.set kn (.obj 0 (.arr n 1 (Bv5 (nx.set x (d+1)))))).length=H.length:=by rw [List.length_set]; exact l4
    exact BtV (n - (i+2)) (by omega) (by omega) ⟨i+2,nx.set x (d+1),rfl,by omega,l5,s5,g5,fin _ _ l5 s5 g5 (fun i2 hi2=>hget i2 _ (d+1) hi2 (BNG (by omega))) (by rw [BzC (List.getElem?_set_self (by omega)),hdn]),rfl⟩
 ·have hi2:j=n:=by omega
  subst hi2
  have:=hK H2 nx hlen h2 g2 hd
  simp -dsimp (disch:=first | assumption | omega | (simp only [Btz];try omega)) only [↓BtC,Bty,BtA,BtB,eq_self,Nat.reduceEqDiff,↓reduceIte,↓Byt,↓Byp]
  exact this
end
section
open Go.RowKit Go.Sort
variable [Bt6]
theorem BI2 {M:Nat} {d:List (Fin (M+1))}:d.map BR0=Bv5 (d.map fun x=>x.val):=by
 rw [Bv5,List.map_map]; rfl
theorem BMl {ranks:List Nat} {k M:Nat} {s:List (Fin (M+1))} (h:s.Pairwise (fun x y=>ltOf (cfF (fun j=>((ranks.getD j 0:Nat):Int)) k M) y x=false)):BAA ranks k (M+1) (s.map fun x=>x.val):=by
 unfold BAA
 rw [List.pairwise_map]
 refine h.imp fun {x y} hxy => ?_
 unfold ltOf cfF at hxy
 have h2:=of_decide_eq_false hxy
 exact h2
theorem BPV {n k:Nat} (hn:n≤20000) (hk:k≤40000) {H0 H:List Ob} {kr kn k8:Nat} {ps ranks nexts:List Nat} (h:BD0 H0 H n kr kn ps ranks nexts) (h8:H0.length+5≤k8) (g8:H[k8]?=some (.obj 0 (i64 (k:Int)))) (hps:ps.Perm (List.range n))
  {K:TV→List Ob→Prop} (hK:∀ H2 ps',H2.length=H.length→BD0 H0 H2 n kr kn ps' ranks nexts→H2[k8]?=some (.obj 0 (i64 (k:Int)))→ps'.Perm (List.range n)→BAA ranks k n ps'→K (.tup []) H2) :
  BtJ Tryd.prog 36 [.os 1 (H0.length+1) 0 [] 0 n n,fnP H0.length k8] H K:=by
 have hkk:=h.kk
 cases n with
 | zero =>
  have hp0:ps=[]:=by have:=h.pl; exact List.eq_nil_of_length_eq_zero this
  exact BOh Tryd.sortL (hK H ps rfl h g8 hps (by rw [hp0]; exact List.Pairwise.nil))
 | succ M =>
  obtain ⟨d,hd⟩:=BR4 (M:=M) (ps:=ps) fun p hp=>by simpa using hps.mem_iff.1 hp
  have hdl:d.length=M+1:=by have:=h.pl; rw [←hd,List.length_map] at this; exact this
  have ol:=h.ol
  rw [←hd,←BI2] at ol
  rw [show (TV.os 1 (H0.length+1) 0 [] 0 (M+1) (M+1)) = .os 1 (H0.length+1) 0 [] 0 d.length (M+1) by rw [hdl]]
  refine BKF Tryd.sortL (B0j (fun j=>((ranks.getD j 0:Nat):Int)) k M) (g:=35) (fun args w=>Bwd BK4) ?_ ol (by intro e; rw [e] at hdl; cases hdl) (by omega) ?_
  ·exact BM0 h.rl h.rb (by omega) (by omega) ol h.oc h.orr g8 h.on (by omega) (by omega) (by omega) (by omega)
  ·intro s hs hsp
   rw [BI2]
   have hl:(s.map fun x=>x.val).length=M+1:=by rw [List.length_map,hs.length_eq]; exact hdl
   refine hK _ _ (by rw [List.length_set]) (h.setL hl) (by rw [List.getElem?_set_ne (by omega)]; exact g8) ?_ (BMl hsp)
   have h1:=hs.map fun x=>x.val
   rw [hd] at h1
   exact h1.trans hps
set_option maxRecDepth 100000 in
theorem BMi {n:Nat} (hn:n≤20000) {H0:List Ob} {K:TV→List Ob→Prop} (R:Nat→List Nat→Prop) {ranks0 nexts0:List Nat} (hR0:R 0 ranks0)
  (hRs:∀ k ranks ps nexts,(k<2*n∨k=0)→R k ranks→ps.Perm (List.range n)→BAA ranks k n ps→nexts.length=n→(∀ i,i<n→nexts.getD (ps.getD i 0) 0=dnP ranks ps k n i)→R (max 1 (2*k)) nexts)
  (hK:∀ H' ps k ranks,H0.length+5≤H'.length→(∀ i,i<H0.length→H'[i]?=H0[i]?)→ps.Perm (List.range n)→R k ranks→BAA ranks k n ps→n≤k→H'[H0.length+1]?=some (.obj 0 (.arr n 1 (Bv5 ps)))→K (.os 1 (H0.length+1) 0 [] 0 n n) H')
  {v0 v20 v21:TV} {H:List Ob} (h:BD0 H0 H n (H0.length+2) (H0.length+3) (List.range n) ranks0 nexts0) :
  vwp Tryd.prog Bvx (BG8 Bvn K) [(0,v0),(3,.op H0.length 0 []),(4,.os 1 (H0.length+1) 0 [] 0 n n),(5,.op (H0.length+4) 0 []),(6,.os 1 (H0.length+3) 0 [] 0 n n),(20,v20),(21,v21)] H:=by
 have hl0:=h.len
 simp -dsimp (disch:=first | assumption | omega | (simp only [Btz];try omega)) only [↓BtC,Bty,BtA,BtB,eq_self,Nat.reduceEqDiff,↓reduceIte,reduceCtorEq,↓BCR,↓BCT]
 refine Byl (fun m e H2=>∃ (k k8 kr kn:Nat) (ps ranks nexts:List Nat),m=(if k=0 then 2*n+1 else 2*n - k)∧(k<2*n∨k=0)∧BD0 H0 H2 n kr kn ps ranks nexts∧H0.length+5≤k8∧H2[k8]?=some (.obj 0 (i64 (k:Int)))∧H.length≤H2.length∧ps.Perm (List.range n)∧R k ranks ∧
  e=[(3,.op H0.length 0 []),(4,.os 1 (H0.length+1) 0 [] 0 n n),(5,.op (H0.length+4) 0 []),(6,.os 1 kn 0 [] 0 n n),(8,.op k8 0 [])]) (2*n+1) ?_ ?_
 ·exact ⟨0,H.length,_,_,_,_,_,by rw [if_pos rfl],.inr rfl,h.more _,hl0,by rw [List.getElem?_append_right (Nat.le_refl _),Nat.sub_self]; rfl,by simp,List.Perm.refl _,hR0,by simp [forget,get]⟩
 rintro m e H2 ⟨k,k8,kr,kn,ps,ranks,nexts,rfl,hkn,h2,h8,g8,hHl,hps,hR,rfl⟩
 have hk4:k≤40000:=by omega
 have h8l:k8<H2.length:=(List.getElem?_eq_some_iff.1 g8).1
 simp -dsimp (disch:=first | assumption | omega | (simp only [Btz];try omega)) only [↓BtC,Bty,BtA,BtB,eq_self,Nat.reduceEqDiff,↓reduceIte,↓BCS,↓BCQ]
 refine Bzz (BPV hn (by omega) h2 h8 g8 hps fun H3 ps3 l3 h3 g3 hps3 hs3 => ?_)
 simp -dsimp (disch:=first | assumption | omega | (simp only [Btz];try omega)) only [↓BtC,Bty,BtA,BtB,eq_self,Nat.reduceEqDiff,↓reduceIte]
 refine BMd hn (by omega) hps3 h3 h8 g3 fun H4 nx4 l4 h4 g4 hd4 => ?_
 have hkk:=h4.kk
 have hr5:=hRs k ranks ps3 nx4 hkn hR hps3 hs3 h4.xl hd4
 have q4c:=h4.oc
 have q4n:=h4.on
 have h5:=h4.swap
 have hll:k8<H4.length:=(List.getElem?_eq_some_iff.1 g4).1
 have g5:(H4.set (H0.length+4) (.obj 0 (.os 1 kn 0 [] 0 n n)))[k8]?=some (.obj 0 (i64 (k:Int))):=by rw [List.getElem?_set_ne (by omega)]; exact g4
 have l5:(H4.set (H0.length+4) (.obj 0 (.os 1 kn 0 [] 0 n n))).length=H2.length:=by rw [List.length_set]; omega
 have hl5:=h5.len
 by_cases hkn2:n≤k
 ·have hfin:=hK _ ps3 k ranks hl5 h5.pre hps3 hR hs3 hkn2 h5.ol
  simp -dsimp (disch:=first | assumption | omega | (simp only [Btz];try omega)) only [↓BtC,Bty,BtA,BtB,eq_self,Nat.reduceEqDiff,↓reduceIte,↓BvY,q4c,h5.on,g5,hkn2,↓BGe]
  exact hfin
 ·have hfo:∀ (X:List Ob) (a b:Ob),(X++[a]).set X.length b=X++[b]:=fun X a b=>by rw [List.set_append_right _ _ (Nat.le_refl _),Nat.sub_self]; rfl
  have hgo:∀ (X:List Ob) (a:Ob),(X++[a])[X.length]?=some a:=fun X a=>by rw [List.getElem?_append_right (Nat.le_refl _),Nat.sub_self]; rfl
  by_cases h12:1<2*k
  ·rw [Nat.max_eq_right (by omega)] at hr5
   simp -dsimp (disch:=first | assumption | omega | (simp only [Btz];try omega)) only [↓BtC,Bty,BtA,BtB,eq_self,Nat.reduceEqDiff,↓reduceIte,↓BvY,q4c,h5.on,g5,hkn2,↓Bx8,h12]
   refine BtV (2*n - 2*k) (by omega) (by simp; omega) ⟨2*k,H4.length,kn,kr,ps3,nx4,ranks,by rw [if_neg (by omega)],.inl (by omega),h5.more _,by have:=h4.len; omega,?_,by simp; omega,hps3,hr5,rfl⟩
   rw [List.getElem?_append_right (by simp),List.length_set,Nat.sub_self]; rfl
  ·have hk0:k=0:=by omega
   subst hk0
   simp -dsimp (disch:=first | assumption | omega | (simp only [Btz];try omega)) only [↓BtC,Bty,BtA,BtB,eq_self,Nat.reduceEqDiff,Nat.reduceMul,↓reduceIte,↓BvY,q4c,h5.on,g5,hkn2,↓Bx8,h12]
   refine BtV (2*n - 1) (by omega) (by simp; omega) ⟨1,H4.length,kn,kr,ps3,nx4,ranks,by rw [if_neg (by omega)],.inl (by omega),h5.more _,by have:=h4.len; omega,?_,by simp; omega,hps3,hr5,rfl⟩
   rw [List.getElem?_append_right (by simp),List.length_set,Nat.sub_self]; rfl
end
section
open Go.RowKit Go.Sort
variable [Bt6]
theorem BJD {c0:Ctx} {w0 w:World} {β:Nat→Nat→Option (Nat×Nat)} {H:List Ob} {F:Nat→Prop} (hs:Sim ⟨β,H,F⟩ w) (hl:BtK c0 w0 ⟨β,H,F⟩ w) (bs:List Nat) (ho:∀ b',Ctx.own ⟨β,H,F⟩ b'→b'<w0.heap.size∨b'∈bs) (hF:∀ b,F b→b<w0.heap.size)
  {z:TV} {vs:List Value} {b:Nat} {t:TypeId} (hz:BtD ⟨β,H,F⟩ w z vs) (hb:w.heap[b]?=some (.cells vs.toArray t (0,0))) (hnb:b∉bs) (hge:w0.heap.size≤b) :
  ∃ β',Sim ⟨β',H++[.obj 0 z],F⟩ w∧BtK c0 w0 ⟨β',H++[.obj 0 z],F⟩ w∧(∀ b',Ctx.own ⟨β',H++[.obj 0 z],F⟩ b'→b'<w0.heap.size∨b'∈b::bs)∧β' H.length 0=some (b,0)∧(∀ id,id<H.length→β' id 0=β id 0):=by
 have h1:¬ Ctx.own ⟨β,H,F⟩ b:=fun h=>(ho b h).elim (fun h=>by omega) hnb
 have h2:¬ F b:=fun h=>by have:=hF b h; omega
 have hm:=BIH hs (.obj 0 z) (some (b,0)) w (fun _ _=>rfl)
 have hget:∀ id y,(H++[Ob.obj 0 z])[id]?=some y→(id<H.length∧H[id]?=some y)∨(id=H.length∧y = .obj 0 z):=by
  intro id y h
  rcases Nat.lt_trichotomy id H.length with h1 | h1 | h1
  ·exact .inl ⟨h1,by rwa [List.getElem?_append_left h1] at h⟩
  ·subst h1; simp at h; exact .inr ⟨rfl,h.symm⟩
  ·rw [List.getElem?_eq_none (by simp; omega)] at h; cases h
 have hβ:∀ id y,H[id]?=some y→upd β H.length 0 (some (b,0)) id y.ver=β id y.ver:=fun id y h=>(hm.has id y.ver ⟨y,h,Nat.le_refl _⟩).2
 have hown:∀ b',Ctx.own ⟨upd β H.length 0 (some (b,0)),H++[.obj 0 z],F⟩ b'→Ctx.own ⟨β,H,F⟩ b'∨b'=b:=by
  rintro b' ⟨id,y,off,h1,h2,h3⟩
  rcases hget id y h1 with ⟨h4,h5⟩ | ⟨rfl,rfl⟩
  ·exact .inl ⟨id,y,off,h5,h2,by show β id y.ver=_; rw [←hβ id y h5]; exact h3⟩
  ·right
   have h3':upd β H.length 0 (some (b,0)) H.length 0=some (b',off):=h3
   rw [BtN] at h3'; cases h3'; rfl
 refine ⟨upd β H.length 0 (some (b,0)),⟨fun id y hy => ?_,fun i j x y b' o1 o2 hx hy hlx hly e1 e2 => ?_,fun b' hb' hF => ?_,hs.lt,hs.glob⟩,hl.adopt hge rfl hm hown,fun b' hb' => ?_,BtN,fun id hid=>BBG (by omega)⟩
 ·rcases hget id y hy with ⟨h4,h5⟩ | ⟨rfl,rfl⟩
  ·exact BIL.mono hm ⟨y,h5,Nat.le_refl _⟩ (fun _ _ _ _=>rfl) (hs.ob id y h5)
  ·exact .inr ⟨b,0,[],vs,[],t,(0,0),BtN,by simpa using hb,BJr _,rfl,BtD.mono hm hz⟩
 ·have e1':upd β H.length 0 (some (b,0)) i x.ver=some (b',o1):=e1
  have e2':upd β H.length 0 (some (b,0)) j y.ver=some (b',o2):=e2
  rcases hget i x hx with ⟨h4,h5⟩ | ⟨rfl,rfl⟩<;>rcases hget j y hy with ⟨k4,k5⟩ | ⟨rfl,rfl⟩
  ·rw [hβ i x h5] at e1'; rw [hβ j y k5] at e2'
   exact hs.inj i j x y b' o1 o2 h5 k5 hlx hly e1' e2'
  ·exfalso
   have e3:upd β H.length 0 (some (b,0)) H.length 0=some (b',o2):=e2'
   rw [BtN] at e3; cases e3
   rw [hβ i x h5] at e1'
   exact h1 ⟨i,x,o1,h5,hlx,e1'⟩
  ·exfalso
   have e3:upd β H.length 0 (some (b,0)) H.length 0=some (b',o1):=e1'
   rw [BtN] at e3; cases e3
   rw [hβ j y k5] at e2'
   exact h1 ⟨j,y,o2,k5,hly,e2'⟩
  ·rfl
 ·rcases hown b' hb' with h | h
  ·exact hs.apart b' h hF
  ·subst h; exact h2 hF
 ·rcases hown b' hb' with h | h
  ·rcases ho b' h with h | h
   ·exact .inl h
   ·exact .inr (List.mem_cons_of_mem _ h)
  ·exact .inr (by rw [h]; exact List.mem_cons_self)
theorem BEW {c:Ctx} {w:World} {n:Nat}:BtD c w (.arr n 1 (Bv5 (List.replicate n 0))) (madeCells #[Value.int .i64 0] n).toList:=by
 have h:=BHy (z := #[Value.int .i64 0]) (x := .val (.int .i64 0)) (fun c w=>by rw [BtD]; exact ⟨rfl,rfl⟩) (by simp) n c w
 have e:Bv5 (List.replicate n 0)=List.replicate n (.val (.int .i64 0)):=by unfold Bv5; rw [List.map_replicate]; rfl
 rw [e]
 simpa using h
theorem BW4 {n:Nat} (hn:n≤20000) {β:Nat→Nat→Option (Nat×Nat)} {F:Nat→Prop} {w w':World} {H0:List Ob} (hs:Sim ⟨β,H0,F⟩ w) (hst:BES F w F w') {l r x q:Nat} {t3 t5:TypeId} (h1:w.heap.size<l) (h2:w.heap.size<r) (h3:w.heap.size<x) (h4:w.heap.size<q) (d1:l≠r) (d2:l≠x) (d3:l≠q) (d4:r≠x) (d5:r≠q) (d6:x≠q)
  (g0:w'.heap[w.heap.size]?=some (.cells #[.int .i64 (n:Int)] t3 (0,0))) (gl:w'.heap[l]?=some (.cells (madeCells #[Value.int .i64 0] n) t3 (0,0))) (gr:w'.heap[r]?=some (.cells (madeCells #[Value.int .i64 0] n) t3 (0,0))) (gx:w'.heap[x]?=some (.cells (madeCells #[Value.int .i64 0] n) t3 (0,0)))
  (gq:w'.heap[q]?=some (.cells #[.slice (some ⟨r,0,none⟩) n n] t5 (0,0))) :
  ∃ β' H',H'.length=H0.length+5∧BD0 H0 H' n (H0.length+2) (H0.length+3) (List.replicate n 0) (List.replicate n 0) (List.replicate n 0)∧Sim ⟨β',H',F⟩ w'∧BtK ⟨β,H0,F⟩ w ⟨β',H',F⟩ w' ∧
   β' H0.length 0=some (w.heap.size,0)∧β' (H0.length+1) 0=some (l,0)∧β' (H0.length+3) 0=some (x,0)∧β' (H0.length+4) 0=some (q,0):=by
 have hl0:BtK ⟨β,H0,F⟩ w ⟨β,H0,F⟩ w':=hst.later
 have hs0:Sim ⟨β,H0,F⟩ w':=hst.sim hs
 have ho0:∀ b',Ctx.own ⟨β,H0,F⟩ b'→b'<w.heap.size∨b'∈[]:=fun b' h => .inl (hs.own_lt h)
 have hF:∀ b,F b→b<w.heap.size:=hs.lt
 have hsh:∀ b,w'.heap[b]?=some (.cells (madeCells #[Value.int .i64 0] n) t3 (0,0))→w'.shape? b=some (t3,n):=fun b hb=>by
  unfold World.shape?; rw [hb]
  simp [madeCells]
 obtain ⟨β1,s1,l1,o1,e1,k1⟩:=BJD hs0 hl0 [] ho0 hF (z:=i64 (n:Int)) (vs:=[.int .i64 (n:Int)]) (by rw [BtD]; exact ⟨rfl,rfl⟩) g0 (by simp) (Nat.le_refl _)
 obtain ⟨β2,s2,l2,o2,e2,k2⟩:=BJD s1 l1 _ o1 hF (BEW (n:=n)) (by simpa using gl) (by simp; omega) (by omega)
 obtain ⟨β3,s3,l3,o3,e3,k3⟩:=BJD s2 l2 _ o2 hF (BEW (n:=n)) (by simpa using gr) (by simp; omega) (by omega)
 obtain ⟨β4,s4,l4,o4,e4,k4⟩:=BJD s3 l3 _ o3 hF (BEW (n:=n)) (by simpa using gx) (by simp; omega) (by omega)
 simp only [List.length_append,List.length_cons,List.length_nil,Nat.zero_add] at e2 e3 e4 k2 k3 k4
 obtain ⟨β5,s5,l5,o5,e5,k5⟩:=BJD s4 l4 _ o4 hF (z := .os 1 (H0.length+2) 0 [] 0 n n) (vs:=[.slice (some ⟨r,0,none⟩) n n]) (by
  rw [BtD]
  refine ⟨⟨.obj 0 (.arr n 1 (Bv5 (List.replicate n 0))),?_,Nat.le_refl _⟩,.inr ⟨r,0,n,t3,n,?_,?_,Nat.le_refl _,by omega,hsh r gr,by simp [Bu0],Nat.le_refl _⟩⟩
  ·show (H0++_++_++_++_)[H0.length+2]?=_
   simp [List.getElem?_append]
  ·show β4 (H0.length+2) 0=_
   rw [k4 _ (by omega),show H0.length+2=H0.length+1+1 by omega]; exact e3
  ·simp [Bu0]) (by simpa using gq) (by simp; omega) (by omega)
 simp only [List.length_append,List.length_cons,List.length_nil,Nat.zero_add] at e5 k5
 refine ⟨β5,_,?_,?_,s5,l5,?_,?_,?_,?_⟩
 ·simp
 ·refine ⟨fun i hi => ?_,by simp,by simp [List.getElem?_append],by simp [List.getElem?_append],by simp [List.getElem?_append],by simp [List.getElem?_append],by simp [List.getElem?_append],.inl ⟨rfl,rfl⟩,by simp,by simp,by simp,fun a ha=>by rw [(List.mem_replicate.1 ha).2]; omega,fun a ha=>by rw [(List.mem_replicate.1 ha).2]; omega⟩
  simp only [List.append_assoc]
  rw [List.getElem?_append_left hi]
 ·rw [k5 _ (by omega),k4 _ (by omega),k3 _ (by omega),k2 _ (by omega)]; exact e1
 ·rw [k5 _ (by omega),k4 _ (by omega),k3 _ (by omega)]; exact e2
 ·rw [k5 _ (by omega)]; exact e4
 ·exact e5
def BVJ (β:Nat→Nat→Option (Nat×Nat)) (F:Nat→Prop) (w:World) (H0:List Ob) (K:TV→List Ob→Prop):Ending→World→Prop:=fun e w'=>∃ v x β' H' F',e = .returned v∧K x H'∧Sim ⟨β',H',F'⟩ w'∧BtK ⟨β,H0,F⟩ w ⟨β',H',F'⟩ w'∧Rep ⟨β',H',F'⟩ w' x v
theorem BSv {b:List UInt8} (hb:b.length≤20000) {β:Nat→Nat→Option (Nat×Nat)} {F:Nat→Prop} {w:World} {H0:List Ob} {K:TV→List Ob→Prop} (R:Nat→List Nat→Prop) (hR0:R 0 (b.map UInt8.toNat))
  (hRs:∀ k ranks ps nexts,(k<2*b.length∨k=0)→R k ranks→ps.Perm (List.range b.length)→BAA ranks k b.length ps→nexts.length=b.length→(∀ i,i<b.length→nexts.getD (ps.getD i 0) 0=dnP ranks ps k b.length i)→R (max 1 (2*k)) nexts)
  (hK:∀ H' ps k ranks,H0.length+5≤H'.length→(∀ i,i<H0.length→H'[i]?=H0[i]?)→ps.Perm (List.range b.length)→R k ranks→BAA ranks k b.length ps→b.length≤k→H'[H0.length+1]?=some (.obj 0 (.arr b.length 1 (Bv5 ps)))→K (.os 1 (H0.length+1) 0 [] 0 b.length b.length) H')
  (hs:Sim ⟨β,H0,F⟩ w) {va:Value} (hva:Rep ⟨β,H0,F⟩ w (slB b) va)
  {code:Code} {fn:Func} (ht:trC Tryd.prog fn.ntmps code=some (er Bvw)) (hr:trR Tryd.prog fn.results.toList=some Bvn)
  {a':Act} {w':World} (hst:BES F w F w') (hd:a'.defers=[]) (hz:a'.tmps.size=fn.ntmps) {l r x q:Nat} {t3 t5:TypeId} (q0:a'.tmps.getD 0 undef=va) (q3:a'.tmps.getD 3 undef = .pointer (some ⟨w.heap.size,0,none⟩)) (q4:a'.tmps.getD 4 undef = .slice (some ⟨l,0,none⟩) b.length b.length) (q5:a'.tmps.getD 5 undef = .pointer (some ⟨q,0,none⟩)) (q6:a'.tmps.getD 6 undef = .slice (some ⟨x,0,none⟩) b.length b.length)
  (q17:a'.tmps.getD 17 undef = .slice (some ⟨r,0,none⟩) b.length b.length)
  (dd:w.heap.size<l∧w.heap.size<r∧w.heap.size<x∧w.heap.size<q∧l≠r∧l≠x∧l≠q∧r≠x∧r≠q∧x≠q)
  (gg:w'.heap[w.heap.size]?=some (.cells #[.int .i64 (b.length:Int)] t3 (0,0))∧w'.heap[l]?=some (.cells (madeCells #[Value.int .i64 0] b.length) t3 (0,0))∧w'.heap[r]?=some (.cells (madeCells #[Value.int .i64 0] b.length) t3 (0,0))∧w'.heap[x]?=some (.cells (madeCells #[Value.int .i64 0] b.length) t3 (0,0)) ∧
   w'.heap[q]?=some (.cells #[.slice (some ⟨r,0,none⟩) b.length b.length] t5 (0,0))) :
  code.wp Tryd.prog (bodyPostM Fence.wide 0 Tryd.prog fn (BVJ β F w H0 K)) a' w':=by
 obtain ⟨h1,h2,h3,h4,d1,d2,d3,d4,d5,d6⟩:=dd
 obtain ⟨g0,gl,gr,gx,gq⟩:=gg
 obtain ⟨β1,H1,hl1,hp,hs1,hla,b0,b1,b3,b4⟩:=BW4 hb hs hst h1 h2 h3 h4 d1 d2 d3 d4 d5 d6 g0 gl gr gx gq
 have hh:∀ (id:Nat) (o:Ob),H1[id]?=some o→o.ver=0→Ctx.has ⟨β1,H1,F⟩ id 0:=fun id o ho hv=>⟨o,ho,by omega⟩
 have hsl:∀ (id bl:Nat) (ps:List Nat),H1[id]?=some (.obj 0 (.arr b.length 1 (Bv5 ps)))→β1 id 0=some (bl,0)→w'.heap[bl]?=some (.cells (madeCells #[Value.int .i64 0] b.length) t3 (0,0))→Rep ⟨β1,H1,F⟩ w' (.os 1 id 0 [] 0 b.length b.length) (.slice (some ⟨bl,0,none⟩) b.length b.length):=fun id bl ps ho hb1 hw=>by
  refine .inl (.inr (.inr ⟨[.slice (some ⟨bl,0,none⟩) b.length b.length],?_,rfl⟩))
  rw [BtD]
  exact ⟨hh id _ ho rfl,.inr ⟨bl,0,b.length,t3,b.length,hb1,by simp [Bu0],Nat.le_refl _,by omega,by unfold World.shape?; rw [hw]; simp [madeCells],by simp [Bu0],Nat.le_refl _⟩⟩
 have hpt:∀ (id bl:Nat) (o:Ob),H1[id]?=some o→o.ver=0→β1 id 0=some (bl,0)→Rep ⟨β1,H1,F⟩ w' (.op id 0 []) (.pointer (some ⟨bl,0,none⟩)):=fun id bl o ho hv hb1=>by
  refine .inl (.inr (.inr ⟨[.pointer (some ⟨bl,0,none⟩)],?_,rfl⟩))
  rw [BtD]
  exact ⟨hh id _ ho hv,bl,0,hb1,by simp [Bu0]⟩
 refine (wpIn_wide (n:=0)).1 ?_
 refine BEJ (ro:=none) (nn:=0) (B:=w'.heap.size) (D:=[]) (D0:=[]) Bvw (.inl rfl) ht (BMb hb hp (Q:=BG8 Bvn K) fun H2 hl2 h2'=>BMi hb R hR0 hRs hK h2') hs1 ⟨⟨fun s => ?_,hs1.glob⟩,hz,hd⟩ By4.nil (Nat.le_refl _) ?_
 ·by_cases e0:s=0
  ·subst e0; rw [q0]; exact Rep.mono (hla.mono hs) hva
  by_cases e3:s=3
  ·subst e3; rw [q3]; exact hpt _ _ _ hp.on rfl b0
  by_cases e4:s=4
  ·subst e4; rw [q4]; exact hsl _ _ _ hp.ol b1 gl
  by_cases e5:s=5
  ·subst e5; rw [q5]; exact hpt _ _ _ hp.oc rfl b4
  by_cases e6:s=6
  ·subst e6; rw [q6]; exact hsl _ _ _ hp.ox b3 gx
  have e:get [(0,slB b),(3,.op H0.length 0 []),(4,.os 1 (H0.length+1) 0 [] 0 b.length b.length),(5,.op (H0.length+4) 0 []),(6,.os 1 (H0.length+3) 0 [] 0 b.length b.length)] s = .any:=by
   simp only [get,Ne.symm e0,Ne.symm e3,Ne.symm e4,Ne.symm e5,Ne.symm e6,if_false]
  rw [e]; exact Rep.any
 ·intro x e' H' β' F' w2 a2 D' k1 k2 k3 km k4
  have fin:res Bvn e' H' (fun x=>K x H')→LeavesInM Fence.wide 0 Tryd.prog fn a2.tmps (BVJ β F w H0 K) a2.defers .returning w2:=fun h=>by
   rw [k3.defers]
   obtain ⟨wF,e1,e2,e3,e4⟩:=By4.shut (D0:=[]) (u := .returning) (by simp) (P:=Tryd.prog) (FF:=Fence.wide) (n:=0) (fn:=fn) (tmps:=a2.tmps) (R:=BVJ β F w H0 K) km k2
   obtain ⟨y,v,r1,r2,r3⟩:=BOS (fn:=fn) (a:=a2) e2 ⟨fun s=>Rep.mono e3 (k3.env.1 s),e2.glob⟩ hr h
   exact e1 ⟨v,r1,v,y,β',H',F',rfl,r3,e2,hla.trans (e4 _ _ (Nat.le_refl _) k4),r2⟩
  cases x with
  | nor=>exact fin k1
  | ret=>exact fin k1
  | exit i=>exact k1.elim
  | pan u=>exact k1.elim
end
end Go.Proofs.YthlbcfmbldcngaaDoor
namespace Go.Proofs.YthlbcfmbldcngaaDoor.Kit
open Go.RowKit
def BKc (w w':World):Prop:=Below w.heap.size w w'
theorem BKc.trans {a b c:World} (h:BKc a b) (k:BKc b c):BKc a c:=Below.trans h (Below.mono k (Below.size h))
theorem BKc.cell {w w':World} (h:BKc w w') {p:Addr} {v:Value} (hv:w.cell? p=some v):w'.cell? p=some v:=by
 rw [Below.cell h (World.block_lt_of_cell? w p hv)]; exact hv
def Bs (w:World) (a:Option Addr) (l:List UInt8):Prop :=
 ∀ j,j<l.length→∃ b off,a=some ⟨b,off,none⟩∧w.cell? ⟨b,off+j,none⟩=some (.int .u8 (l.getD j 0).toNat)
theorem Bs.keep {w w':World} {a:Option Addr} {l:List UInt8} (h:Bs w a l) (k:BKc w w'):Bs w' a l:=fun j hj =>
 let ⟨b,off,e,hc⟩:=h j hj; ⟨b,off,e,k.cell hc⟩
theorem Bs.take {w:World} {a:Option Addr} {l:List UInt8} (h:Bs w a l) (n:Nat):Bs w a (l.take n):=fun j hj=>by
 have hj':j<l.length:=by simp at hj; omega
 have hjn:j<n:=by simp at hj; omega
 obtain ⟨b,off,e,hc⟩:=h j hj'
 exact ⟨b,off,e,by rw [hc]; simp [List.getD,hjn]⟩
theorem Bs.drop {w:World} {b off:Nat} {l:List UInt8} (h:Bs w (some ⟨b,off,none⟩) l) (n:Nat):Bs w (some ⟨b,off+n,none⟩) (l.drop n):=fun j hj=>by
 have hj':n+j<l.length:=by simp at hj; omega
 obtain ⟨b',off',e,hc⟩:=h (n+j) hj'
 simp only [Option.some.injEq,Addr.mk.injEq,and_true] at e
 obtain ⟨rfl,rfl⟩:=e
 refine ⟨b,off+n,rfl,?_⟩
 rw [Nat.add_assoc,hc]
 simp [List.getD]
def bv (l:List UInt8):List Value:=l.map fun x => .int .u8 (x.toNat:Int)
@[simp] theorem BVE (l:List UInt8):(bv l).length=l.length:=by simp [bv]
theorem BTv (l:List UInt8) (j:Nat) (h:j<l.length):(bv l)[j]?=some (.int .u8 ((l.getD j 0).toNat:Int)):=by simp [bv,List.getD,h]
theorem Bs.src {w:World} {a:Option Addr} {l:List UInt8} (h:Bs w a l) (hp:0<(bv l).length):∃ ad,a=some ad∧∀ j v,(bv l)[j]?=some v→w.cell? (ad.add j)=some v:=by
 obtain ⟨b,off,rfl,_⟩:=h 0 (by simpa using hp)
 refine ⟨_,rfl,fun j v hv => ?_⟩
 have hj:j<l.length:=by
  rcases Nat.lt_or_ge j l.length with h1 | h1
  ·exact h1
  ·rw [List.getElem?_eq_none (by simpa using h1)] at hv; cases hv
 obtain ⟨b',off',e,hc⟩:=h j hj
 simp only [Option.some.injEq,Addr.mk.injEq,and_true] at e
 obtain ⟨rfl,rfl⟩:=e
 rw [BTv l j hj] at hv
 rw [show (⟨b,off,none⟩:Addr).add j=⟨b,off+j,none⟩ from by simp [Addr.add],hc]; exact hv
theorem BT6 (x:UInt8):(x.toNat:Int)<256:=by have:=UInt8.toNat_lt x; omega
theorem Bs.at' {w:World} {b off:Nat} {l:List UInt8} (h:Bs w (some ⟨b,off,none⟩) l) {j:Nat} (hj:j<l.length) :
  ∃ x,w.cell? ⟨b,off+j,none⟩=some (.int .u8 (x.toNat:Int))∧(x.toNat:Int)<256∧Hid (x=l.getD j 0):=by
 obtain ⟨b',off',e,hc⟩:=h j hj
 simp only [Option.some.injEq,Addr.mk.injEq,and_true] at e
 obtain ⟨rfl,rfl⟩:=e
 exact ⟨l.getD j 0,hc,BT6 _,rfl⟩
end Go.Proofs.YthlbcfmbldcngaaDoor.Kit
namespace Go.Proofs.YthlbcfmbldcngaaDoor
section
open Go.RowKit Kit Go.Sort
variable [Bt6]
attribute [local go_sem ↓] Go.wp_at_zero Go.wp_at_succ
theorem BPE:(Tryd.prog.info? 3).map (fun i=>(i.zero,i.size,i.bytes))=some (some (.int .i64 0),1,8):=by kernel_rfl
def KU (b:Nat) (n:Int) (w:World):Prop:=b<w.heap.size∧w.cell? ⟨b,0,none⟩=some (.int .i64 n)
theorem KU.alloc {b:Nat} {n:Int} {w:World} {o:Obj} (h:KU b n w):KU b n (w.alloc o):=⟨by simp; have:=h.1; omega,by rw [World.cell?_alloc_lt _ _ _ h.1]; exact h.2⟩
theorem KU.drew {b:Nat} {n:Int} {w:World} (h:KU b n w):KU b n w.drew:=⟨h.1,by rw [World.cell?_drew]; exact h.2⟩
theorem KU.start {n:Int} {w:World} {t:TypeId}:KU w.heap.size n (w.alloc (.cells #[.int .i64 n] t)):=⟨by simp,by simp⟩
theorem BLr (w:World) (o0 o1 o2 o3 o4:Obj):(((((w.alloc o0).alloc o1).alloc o2).alloc o3).alloc o4).drew.heap=((((w.heap.push o0).push o1).push o2).push o3).push o4:=rfl
theorem BGF (w:World) (o0 o1 o2 o3 o4:Obj):(((((w.alloc o0).alloc o1).alloc o2).alloc o3).alloc o4).drew.heap[w.heap.size]?=some o0∧(((((w.alloc o0).alloc o1).alloc o2).alloc o3).alloc o4).drew.heap[w.heap.size+1]?=some o1∧(((((w.alloc o0).alloc o1).alloc o2).alloc o3).alloc o4).drew.heap[w.heap.size+1+1]?=some o2 ∧
  (((((w.alloc o0).alloc o1).alloc o2).alloc o3).alloc o4).drew.heap[w.heap.size+1+1+1]?=some o3∧(((((w.alloc o0).alloc o1).alloc o2).alloc o3).alloc o4).drew.heap[w.heap.size+1+1+1+1]?=some o4:=by
 rw [BLr]
 have p01:¬ (w.heap.size=w.heap.size+1):=by omega
 have p02:¬ (w.heap.size=w.heap.size+1+1):=by omega
 have p03:¬ (w.heap.size=w.heap.size+1+1+1):=by omega
 have p04:¬ (w.heap.size=w.heap.size+1+1+1+1):=by omega
 have p12:¬ (w.heap.size+1=w.heap.size+1+1):=by omega
 have p13:¬ (w.heap.size+1=w.heap.size+1+1+1):=by omega
 have p14:¬ (w.heap.size+1=w.heap.size+1+1+1+1):=by omega
 have p23:¬ (w.heap.size+1+1=w.heap.size+1+1+1):=by omega
 have p24:¬ (w.heap.size+1+1=w.heap.size+1+1+1+1):=by omega
 have p34:¬ (w.heap.size+1+1+1=w.heap.size+1+1+1+1):=by omega
 simp only [Array.getElem?_push,Array.size_push,p01,p02,p03,p04,p12,p13,p14,p23,p24,p34,if_false,if_true,and_self]
theorem BTA (F:Nat→Prop) (w:World) (hF:∀ b,F b→b<w.heap.size) (o0 o1 o2 o3 o4:Obj):BES F w F (((((w.alloc o0).alloc o1).alloc o2).alloc o3).alloc o4).drew:=by
 refine ⟨rfl,rfl,rfl,?_,fun b hb => ?_,fun _ h=>h,fun _ _ h=>h,fun b hb => ?_⟩
 ·rw [BLr]; simp; omega
 ·rw [BLr]
  have h1:b≠w.heap.size:=by omega
  have h2:b≠w.heap.size+1:=by omega
  have h3:b≠w.heap.size+1+1:=by omega
  have h4:b≠w.heap.size+1+1+1:=by omega
  have h5:b≠w.heap.size+1+1+1+1:=by omega
  simp only [Array.getElem?_push,Array.size_push,h1,h2,h3,h4,h5,if_false]
 ·have:=hF b hb
  rw [BLr]; simp; omega
set_option maxHeartbeats 0 in
set_option maxRecDepth 100000 in
theorem BSO {b:List UInt8} (hb:b.length≤20000) {H0:List Ob} {K:TV→List Ob→Prop} (R:Nat→List Nat→Prop) (hR0:R 0 (b.map UInt8.toNat))
  (hRs:∀ k ranks ps nexts,(k<2*b.length∨k=0)→R k ranks→ps.Perm (List.range b.length)→BAA ranks k b.length ps→nexts.length=b.length→(∀ i,i<b.length→nexts.getD (ps.getD i 0) 0=dnP ranks ps k b.length i)→R (max 1 (2*k)) nexts)
  (hK:∀ H' ps k ranks,H0.length+5≤H'.length→(∀ i,i<H0.length→H'[i]?=H0[i]?)→ps.Perm (List.range b.length)→R k ranks→BAA ranks k b.length ps→b.length≤k→H'[H0.length+1]?=some (.obj 0 (.arr b.length 1 (Bv5 ps)))→K (.os 1 (H0.length+1) 0 [] 0 b.length b.length) H') :
  BtJ Tryd.prog 24 [slB b] H0 K:=by
 intro β F w vs hs hv
 obtain ⟨u,us,rfl,hu,hv⟩:=BtY.cons.1 hv
 rw [BtY.nil] at hv; subst hv
 have hva:Rep ⟨β,H0,F⟩ w (slB b) u := .inl hu
 obtain ⟨a,ca,rfl⟩:∃ a ca,u = .slice a b.length ca:=by
  rcases hu with h | h | ⟨us,h,rfl⟩
  ·cases h
  ·cases h
  rw [BtD] at h
  rcases h.2 with ⟨h0,a,cap,e,_⟩ | ⟨bb,off,cap,vs,e,_⟩
  ·have hb0:b=[]:=by simpa using h0
   subst hb0; rw [e]; exact ⟨a,cap,rfl⟩
  ·rw [e,List.length_map]; exact ⟨_,cap,rfl⟩
 have hmk:=run_make_row' (P:=Tryd.prog) 58 3 (.int .i64 0) 8 Tryd.underlying58 BPE rfl .i64 .i64 b.length (by omega) (by omega)
 have hlt:=hs.lt
 have hend:=@BSv _ b hb β F w H0 K R hR0 hRs hK hs _ hva
 generalize hn:b.length=n at *
 change Calls _ _ _ w (BVJ β F w H0 K)
 generalize BVJ β F w H0 K=RR at *
 clear hRs hK hs hva hu
 refine (callsIn_wide (n:=0)).1 (callsIn_of_wp_marks Tryd.func24 rfl trivial (wpIn_wide.2 ?_))
 simp only [Tryd.ntmps24,List.size_toArray,List.length_cons,List.length_nil,Nat.reduceAdd,Nat.reduceSub,Array.replicate_succ,Array.replicate_zero,List.push_toArray,List.append_toArray,List.nil_append,List.cons_append]
 go_wp2
 rename_i KK hKK
 go_region_held3 (fun w'=>w.heap.size<w'.heap.size∧w'.cell? ⟨w.heap.size,0,none⟩=some (.int .i64 (n:Int))) ((change KU _ _ _)<;>(repeat' (first | with_reducible exact KU.start | with_reducible apply KU.drew | with_reducible apply KU.alloc))) (fail)
 all_goals refine hKK _ _ ?_
 all_goals refine hend (t3:=3) (t5:=58) (by kernel_rfl) BG7 (BTA F w hlt _ _ _ _ _) rfl rfl rfl rfl rfl rfl rfl rfl (by omega) ?_
 all_goals refine ⟨(BGF w _ _ _ _ _).1,?_,?_,?_,?_⟩
 all_goals first | with_reducible exact (BGF w _ _ _ _ _).2.1 | with_reducible exact (BGF w _ _ _ _ _).2.2.1 | with_reducible exact (BGF w _ _ _ _ _).2.2.2.1 | with_reducible exact (BGF w _ _ _ _ _).2.2.2.2
end
section
open Go.RowKit
variable [Bt6]
theorem BW2 {k l:List UInt8} {x:TV}:∀ {es:List (List UInt8×TV)},BBD k (BGO l x es)=if l=k then some x else BBD k es
 | []=>by simp [BGO,BBD]
 | (q,y)::es=>by
  rw [BGO]
  by_cases hq:q=l
  ·subst hq
   rw [if_pos rfl,BBD,BBD]
   by_cases h:q=k<;>simp [h]
  ·rw [if_neg hq,BBD,BBD,BW2]
   by_cases h:q=k
   ·subst h; rw [if_pos rfl,if_neg (fun e=>hq e.symm),if_pos rfl]
   ·rw [if_neg h,if_neg h]
set_option maxRecDepth 100000 in
theorem BL2 {base:List UInt8} (hb:base.length≤100000) {H:List Ob} {K:TV→List Ob→Prop} (hK:∀ H' fid,H.length≤H'.length→(∀ i,i<H.length→H'[i]?=H[i]?)→BJz base fid H'→K (.op fid 0 []) H') :
  BtJ Tryd.prog 13 [slB base] H K:=by
 refine BD7 (by simp) ?_
 have A0:∀ (x:Ob) (T:List Ob),(H++x::T)[H.length]?=some x:=fun x T=>by simp
 by_cases hl:20000<base.length
 ·simp -dsimp (disch:=first | assumption | omega | (simp only [Btz];try omega)) only [↓BtC,Bty,BtA,BtB,eq_self,Nat.reduceEqDiff,↓reduceIte,Nat.reduceAdd,reduceCtorEq,↓ByT,↓BwG,↓Bxe,hl,↓Bw6,↓BBz,A0]
  rw [List.append_assoc]
  simp -dsimp (disch:=first | assumption | omega | (simp only [Btz];try omega)) only [↓BtC,Bty,BtA,BtB,eq_self,Nat.reduceEqDiff,↓reduceIte,reduceCtorEq,↓BBi,↓BBy]
  refine Byl (fun m e H2=>∃ (i:Nat) (es:List (List UInt8×TV)),m=base.length - i∧i≤base.length+16∧H2=H++[Ob.obj 0 (.agg [slB base,.val (.slice none 0 0),.mp (H.length+1) 0]),Ob.mpo (.arr 16) es]∧(∀ key v,BBD key es=some v→∃ i:Nat,v=i64 (i:Int)∧i+16≤base.length) ∧
   e=[(0,slB base),(3,.op H.length 0 []),(4,i64 (i:Int))]) base.length ?_ ?_
  ·exact ⟨0,[],rfl,by omega,rfl,fun key v h=>by simp [BBD] at h,rfl⟩
  rintro m e H2 ⟨i,es,rfl,hi,rfl,hes,rfl⟩
  have A1:∀ (x y:Ob) (T:List Ob),(H++x::y::T)[H.length+1]?=some y:=fun x y T=>by rw [List.getElem?_append_right (by omega),show H.length+1 - H.length=1 by omega]; rfl
  by_cases h16:i+16≤base.length
  ·have hdl:(base.drop i).length=base.length - i:=List.length_drop
   have ht16:((base.drop i).take 16).length=16:=by rw [List.length_take]; omega
   simp -dsimp (disch:=first | assumption | omega | (simp only [Btz];try omega)) only [↓BtC,Bty,BtA,BtB,eq_self,Nat.reduceLT,Nat.reduceEqDiff,↓reduceIte,Nat.reduceAdd,reduceCtorEq,↓Bxb,h16,↓BBl,A0,A1,hdl]
   refine BtV (base.length - (i+16)) (by omega) (by simp) ⟨i+16,_,rfl,by omega,rfl,fun key v hg => ?_,rfl⟩
   rw [BW2] at hg
   split at hg
   ·exact ⟨i,(Option.some.inj hg).symm,h16⟩
   ·exact hes key v hg
  ·have hfin:BJz base H.length (H++[Ob.obj 0 (.agg [slB base,.val (.slice none 0 0),.mp (H.length+1) 0]),Ob.mpo (.arr 16) es]) := .inr ⟨H.length+1,es,A0 _ _,A1 _ _ _,hes⟩
   have:=hK _ _ (by simp) (fun j hj=>by rw [List.getElem?_append_left hj]) hfin
   simp -dsimp (disch:=first | assumption | omega | (simp only [Btz];try omega)) only [↓BtC,Bty,BtA,BtB,eq_self,Nat.reduceEqDiff,↓reduceIte,reduceCtorEq,↓Bxb,h16,↓BBq,↓ByH]
   exact this
 ·simp -dsimp (disch:=first | assumption | omega | (simp only [Btz];try omega)) only [↓BtC,Bty,BtA,BtB,eq_self,Nat.reduceEqDiff,↓reduceIte,reduceCtorEq,↓ByT,↓BwG,↓Bxe,hl,↓Bw6,↓BBj]
  refine Bzz (BSO (by omega) (fun _ _=>True) trivial (fun _ _ _ _ _ _ _ _ _ _=>trivial) fun H' ps k ranks hlen hpre hps _ _ _ ho => ?_)
  rw [List.length_append,List.length_singleton] at *
  have h0:H'[H.length]?=some (Ob.obj 0 (.agg [slB base,.val (.slice none 0 0),.val (.map none)])):=by rw [hpre _ (by omega)]; simp
  have hpl:ps.length=base.length:=by have:=hps.length_eq; simpa using this
  have hfin:BJz base H.length (H'.set H.length (Ob.obj 0 (.agg [slB base,.os 1 (H.length+1+1) 0 [] 0 base.length base.length,.val (.map none)]))):=by
   refine .inl ⟨ps,H.length+1+1,0,base.length,?_,?_,fun p hp=>by simpa using hps.mem_iff.1 hp,by omega⟩
   ·rw [List.getElem?_set_self (by omega),hpl]
   ·rw [List.getElem?_set_ne (by omega),hpl]; exact ho
  have:=hK _ _ (by rw [List.length_set]; omega) (fun j hj=>by rw [List.getElem?_set_ne (by omega),hpre j (by omega),List.getElem?_append_left hj]) hfin
  simp -dsimp (disch:=first | assumption | omega | (simp only [Btz];try omega)) only [↓BtC,Bty,BtA,BtB,eq_self,Nat.reduceEqDiff,↓reduceIte,Nat.reduceAdd,reduceCtorEq,h0,↓ByH]
  exact this
end
section
open Go.RowKit
variable [Bt6]
theorem BLh:∀ (f g a n:Nat),n≤f→n≤g→cpB f a n=cpB g a n
 | 0,g,a,n,h1,h2=>by
  have:n=0:=by omega
  subst this
  cases g<;>simp [cpB]
 | f+1,0,a,n,h1,h2=>by
  have:n=0:=by omega
  subst this
  simp [cpB]
 | f+1,g+1,a,n,h1,h2=>by
  rw [cpB,cpB]
  by_cases hn:n=0
  ·rw [if_pos hn,if_pos hn]
  ·rw [if_neg hn,if_neg hn,BLh f g (a+min n 65535) (n - min n 65535) (by omega) (by omega)]
theorem BP7 {q a k:Nat} (h0:0<q) (hk:k=min q 65535):cpB q a q=BSe a k++cpB (q - k) (a+k) (q - k):=by
 cases q with
 | zero=>omega
 | succ q' =>
  have h1:0<k:=by omega
  have h2:q'+1≠0:=by omega
  rw [cpB,if_neg h2,←hk]
  congr 1
  exact BLh q' (q'+1 - k) (a+k) (q'+1 - k) (by omega) (Nat.le_refl _)
def BTm (a k:Nat):List Nat:=[a,a / 2 ^ 8,a / 2 ^ 16,a / 2 ^ 24,k,k / 2 ^ 8]
theorem BTl (a k:Nat):cpN a k=(BTm a k).map (· % 256):=by unfold cpN BTm; rfl
theorem BK0:∀ (xs:List Nat) (x:Nat),nzM (xs++[x])=nzM xs+(if 0<x then 2 ^ xs.length else 0)
 | [],x=>by simp [nzM]
 | y::xs,x=>by
  rw [List.cons_append,nzM,nzM,BK0 xs x,List.length_cons,Nat.pow_succ]
  split<;>split<;>omega
theorem BP9 (xs:List Nat) (x:Nat):nzB (xs++[x])=nzB xs++(if 0<x then [UInt8.ofNat x] else []):=by
 unfold nzB
 rw [List.filter_append,List.map_append]
 by_cases h:0<x<;>simp [h]
set_option maxRecDepth 100000 in
theorem BWw:∀ i:Fin 6,∀ M:Fin 64,M.val<2 ^ i.val→(128+M.val) ||| 2 ^ i.val=128+M.val+2 ^ i.val:=by decide
theorem BYf {i M:Nat} (hi:i<6) (hM:M<2 ^ i):(128+M) ||| 2 ^ i=128+M+2 ^ i:=by
 have h64:M<64:=Nat.lt_of_lt_of_le hM (Nat.pow_le_pow_right (n:=2) (by omega) (by omega:i≤6))
 exact BWw ⟨i,hi⟩ ⟨M,h64⟩ hM
theorem BVY {t:TypeId} {k2:IntKind} {a b:Nat} (h2:b≤7) (h4:a*2 ^ b<256):BvB t .shl (.int .u8 (a:Int)) (.int k2 (b:Int))=some (.int .u8 ((a*2 ^ b:Nat):Int)):=by
 have e:binOp .shl t (.int .u8 (a:Int)) (.int k2 (b:Int))=pure (.int .u8 ((a*2 ^ b:Nat):Int)):=by
  show Op.shift .shl .u8 a k2 b=_
  unfold Op.shift
  rw [if_neg (by omega)]
  have hm:min ((b:Int)).toNat IntKind.u8.bits=b:=by
   have:IntKind.u8.bits=8:=rfl
   omega
  simp only [hm]
  have e2:(a:Int)*2 ^ b=((a*2 ^ b:Nat):Int):=by rw [Int.natCast_mul,Int.natCast_pow]; rfl
  rw [e2,IntKind.wrap_u8]
  congr 3; omega
 unfold BvB; rw [e]; rfl
theorem BRi {l:List UInt8} {a n:Nat} (ha:a+n≤1000000) (hl:l.length≤10000000) {id v cp:Nat} {H:List Ob} (hx:H[id]?=some (BH4 v l)) {K:TV→List Ob→Prop}
  (hK:∀ H' v' cp',BBK H H' id (BH4 v' (l++cpB n a n))→K (.os 1 id v' [] 0 (l++cpB n a n).length cp') H'):BtJ Tryd.prog 17 [.os 1 id v [] 0 l.length cp,i64 (a:Int),i64 (n:Int)] H K:=by
 refine BDs (by simp) ?_
 simp -dsimp (disch:=first | assumption | omega | (simp only [Btz];try omega)) only [↓BtC,Bty,BtA,BtB,eq_self,Nat.reduceEqDiff,↓reduceIte,Nat.reduceAdd,reduceCtorEq,↓BCK,↓BAg]
 refine Byl (fun q e H'=>∃ (a' v' cp':Nat) (l':List UInt8),a'+q=a+n∧l'.length≤l.length+8*(n - q)∧q≤n∧l'++cpB q a' q=l++cpB n a n∧BBK H H' id (BH4 v' l')∧e=[(0,.os 1 id v' [] 0 l'.length cp'),(1,i64 (a':Int)),(2,i64 (q:Int))]) n ?_ ?_
 ·exact ⟨a,v,cp,l,rfl,by omega,Nat.le_refl _,rfl,⟨hx,fun _ _ _=>rfl,Nat.le_refl _⟩,rfl⟩
 rintro q e H' ⟨a',v',cp',l',hq,hll,hqn,hlist,hG,rfl⟩
 have hidl:=(List.getElem?_eq_some_iff.1 hG.at').1
 have hHl:=hG.len
 have htk:(l'.map by8).take l'.length=l'.map by8:=List.take_of_length_le (by simp)
 have hat:=hG.at'
 by_cases h0:0<q
 case neg =>
  have hq0:q=0:=by omega
  subst hq0
  rw [cpB,List.append_nil] at hlist
  have hg:=hG
  rw [hlist] at hg
  have:=hK _ _ cp' hg
  rw [←hlist] at this
  simp -dsimp (disch:=first | assumption | omega | (simp only [Btz];try omega)) only [↓BtC,Bty,BtA,BtB,eq_self,Nat.reduceLT,Nat.reduceEqDiff,↓reduceIte,reduceCtorEq,↓Bu3,↓BzQ,↓BCI]
  exact this
 have hcpq:∀ k,k=min q 65535→cpB q a' q=BSe a' k++cpB (q - k) (a'+k) (q - k):=fun k hk=>BP7 h0 hk
 have hmain:∀ k,k=min q 65535→vwp Tryd.prog Bvp (Blk 1 (Rnd H.length [0,1,2] (Blk 0 (Thn Tryd.prog Bvu (BG8 BwP K)))
   (fun q e H'=>∃ (a' v' cp':Nat) (l':List UInt8),a'+q=a+n∧l'.length≤l.length+8*(n - q)∧q≤n∧l'++cpB q a' q=l++cpB n a n∧BBK H H' id (BH4 v' l')∧e=[(0,.os 1 id v' [] 0 l'.length cp'),(1,i64 (a':Int)),(2,i64 (q:Int))]) q))
   [(0,.os 1 id v' [] 0 l'.length cp'),(1,i64 (a':Int)),(2,i64 (q:Int)),(7,i64 (k:Int))] H':=by
  intro k hk
  have hk1:0<k:=by omega
  have hk2:k≤65535:=by omega
  have hkq:k≤q:=by omega
  rw [hcpq k hk,←List.append_assoc] at hlist
  have hb8:TV.val (.int .u8 ((128:Nat):Int))=by8 128:=rfl
  have hg0:=hG.snoc (v:=v') (l:=l') (m:=[128]) (T:=[Ob.obj 0 (TV.arr 1 1 [by8 128])])
  have hraw:TV.arr 6 1 [i64 (a':Int),i64 ((a' / 2 ^ 8:Nat):Int),i64 ((a' / 2 ^ 16:Nat):Int),i64 ((a' / 2 ^ 24:Nat):Int),i64 (k:Int),i64 ((k / 2 ^ 8:Nat):Int)] = .arr 6 1 ((BTm a' k).map fun x:Nat=>i64 (x:Int)):=rfl
  simp -dsimp (disch:=first | assumption | omega | (simp only [Btz];try omega)) only [↓BtC,Bty,BtA,BtB,eq_self,Nat.reduceEqDiff,Nat.reducePow,↓reduceIte,reduceCtorEq,Nat.reduceLeDiff,↓BzF,↓BAd,↓BAs,↓BAr,hat,BEO,htk,hb8]
  rw [show TV.arr 6 1 [i64 (a':Int),TV.val (.int .i64 ((a' / 256:Nat):Int)),TV.val (.int .i64 ((a' / 65536:Nat):Int)),TV.val (.int .i64 ((a' / 16777216:Nat):Int)),i64 (k:Int),TV.val (.int .i64 ((k / 256:Nat):Int))] = .arr 6 1 ((BTm a' k).map fun x:Nat=>i64 (x:Int)) from rfl]
  refine Byl (fun p e H2=>∃ (i v2:Nat) (xs:List Nat) (w:List UInt8),p=6 - i∧i≤6∧xs=(cpN a' k).take i∧w=l'++UInt8.ofNat (128+nzM xs)::nzB xs∧BBK H H2 id (BH4 v2 w)∧H'.length+1≤H2.length ∧
   e=[(0,.os 1 id v2 [] 0 w.length w.length),(1,i64 (a':Int)),(2,i64 (q:Int)),(7,i64 (k:Int)),(8,i64 (l'.length:Int)),(30,.arr 6 1 ((BTm a' k).map fun x:Nat=>i64 (x:Int))),(31,i64 (i:Int))]) 6 ?_ ?_
  ·exact ⟨0,v'+1,[],l'++[128],rfl,Nat.zero_le _,rfl,rfl,hg0,by simp,by rw [List.length_append]; rfl⟩
  rintro p e H2 ⟨i,v2,xs,w,rfl,hi,hxs,hw,hg2,hHl2,rfl⟩
  have hwl:w.length=l'.length+1+(nzB xs).length:=by rw [hw]; simp; omega
  have hid2:=(List.getElem?_eq_some_iff.1 hg2.at').1
  have hat2:=hg2.at'
  have hxl:xs.length=i:=by rw [hxs,List.length_take]; show min i 6=i; omega
  by_cases hi6:i<6
  ·obtain ⟨z,hz⟩:∃ z,(BTm a' k)[i]?=some z:=⟨_,List.getElem?_eq_getElem hi6⟩
   have hz64:z≤1000000:=by
    have:=List.mem_of_getElem? hz
    have q1:a' / 2 ^ 8≤a':=Nat.div_le_self _ _
    have q2:a' / 2 ^ 16≤a':=Nat.div_le_self _ _
    have q3:a' / 2 ^ 24≤a':=Nat.div_le_self _ _
    have q4:k / 2 ^ 8≤k:=Nat.div_le_self _ _
    simp only [BTm,List.mem_cons,List.not_mem_nil,or_false] at this
    omega
   have hcz:(cpN a' k)[i]?=some (z % 256):=by rw [BTl,List.getElem?_map,hz]; rfl
   have hsucc:(cpN a' k).take (i+1)=xs++[z % 256]:=by rw [hxs,List.take_add_one,hcz]; rfl
   have hM:=BKM xs
   rw [hxl] at hM
   have hnm:=BK0 xs (z % 256)
   have hnb:=BP9 xs (z % 256)
   rw [hxl] at hnm
   have hand:∀ t,BvB t .and (.int .i64 (z:Int)) (.int .i64 ((255:Nat):Int))=some (.int .i64 ((z % 256:Nat):Int)):=fun t=>by
    rw [BRe (by omega) (by omega) (by omega) (by omega)]
    have e:=Nat.and_two_pow_sub_one_eq_mod z 8
    simp only [Int.toNat_natCast]
    rw [show (255:Nat)=2 ^ 8 - 1 from rfl,e]
   have hnl:(nzB xs).length≤i:=by rw [←hxl]; unfold nzB; rw [List.length_map]; exact List.length_filter_le _ _
   have h2i:2 ^ i≤32:=Nat.pow_le_pow_right (n:=2) (by omega) (by omega:i≤5)
   have hwat:w[l'.length]?=some (UInt8.ofNat (128+nzM xs)):=by rw [hw]; simp
   have hmu:∀ y,(w.map by8).set l'.length (by8 y)=(w.set l'.length y).map by8:=fun y=>by rw [List.map_set]
   have hset:∀ y,w.set l'.length y=l'++y::nzB xs:=fun y=>by rw [hw]; simp
   obtain ⟨b0,hb0⟩:∃ b0,b0=UInt8.ofNat (128+nzM xs):=⟨_,rfl⟩
   have hb0n:b0.toNat=128+nzM xs:=by rw [hb0,BHe (by omega)]
   rw [←hb0] at hwat
   have hshl:∀ t,BvB t .shl (.int .u8 ((1:Nat):Int)) (.int .i64 (i:Int))=some (.int .u8 ((2 ^ i:Nat):Int)):=fun t=>by rw [BVY (by omega) (by omega),Nat.one_mul]
   have hor:∀ t,BvB t .or (.int .u8 (b0.toNat:Int)) (.int .u8 ((2 ^ i:Nat):Int))=some (.int .u8 ((128+nzM xs+2 ^ i:Nat):Int)):=fun t=>by
    rw [hb0n,BU4 (by omega) (by omega),BYf hi6 hM]
   have hb1:TV.val (.int .u8 ((128+nzM xs+2 ^ i:Nat):Int))=by8 (UInt8.ofNat (128+nzM xs+2 ^ i)):=by rw [BOe (by omega)]
   have hwset:w.set l'.length b0=w:=by rw [hset,hw,hb0]
   clear hw
   by_cases hz0:0<z % 256
   ·rw [if_pos hz0] at hnm hnb
    have htk2:∀ y,((w.set l'.length y).map by8).take w.length=(w.set l'.length y).map by8:=fun y=>List.take_of_length_le (by simp)
    simp -dsimp (disch:=first | assumption | omega | (simp only [Btz];try omega)) only [↓BtC,Bty,BtA,BtB,eq_self,Nat.reduceEqDiff,↓reduceIte,reduceCtorEq,Nat.reduceLeDiff,↓Bvb,hi6,↓Bvf,↓BwT,↓BwS,hz,hand,hz0,↓BwM,↓BAw,hat2,hwat,hshl,hor,hb1,hmu,BEO,hwl]
    have hz8:UInt8.ofNat (z % 256)=UInt8.ofNat z:=by apply UInt8.toNat_inj.1; simp
    have hg3:=hg2.snoc (v:=v2) (l:=w.set l'.length (UInt8.ofNat (128+nzM xs+2 ^ i))) (m:=[UInt8.ofNat z]) (T:=[Ob.obj 0 (TV.arr 1 1 [TV.val (Value.int IntKind.u8 ((UInt8.ofNat z).toNat:Int))])])
    have hw3:w.set l'.length (UInt8.ofNat (128+nzM xs+2 ^ i))++[UInt8.ofNat z]=l'++UInt8.ofNat (128+nzM (xs++[z % 256]))::nzB (xs++[z % 256]):=by
     rw [hset,hnm,hnb,hz8,Nat.add_assoc]; simp
    have hl3:(w.set l'.length (UInt8.ofNat (128+nzM xs+2 ^ i))++[UInt8.ofNat z]).length=l'.length+1+(nzB xs).length+1:=by simp; omega
    have hl4:(w.set l'.length (UInt8.ofNat (128+nzM xs+2 ^ i))).length=l'.length+1+(nzB xs).length:=by simp; omega
    rw [hl4] at hg3
    exact BtV (6 - (i+1)) (by omega) (by simp; omega) ⟨i+1,v2+1,xs++[z % 256],_,rfl,by omega,hsucc.symm,hw3,hg3,by simp; omega,by rw [hl3]; rfl⟩
   ·rw [if_neg hz0,Nat.add_zero] at hnm
    rw [if_neg hz0,List.append_nil] at hnb
    simp -dsimp (disch:=first | assumption | omega | (simp only [Btz];try omega)) only [↓BtC,Bty,BtA,BtB,eq_self,Nat.reduceEqDiff,↓reduceIte,reduceCtorEq,↓Bvb,hi6,↓Bvf,↓BwT,↓BwS,hz,hand,hz0,↓BwM]
    exact BtV (6 - (i+1)) (by omega) (by omega) ⟨i+1,v2,xs++[z % 256],w,rfl,by omega,hsucc.symm,by rw [hnm,hnb,←hb0,←hset,hwset],hg2,hHl2,rfl⟩
  ·have hi66:i=6:=by omega
   subst hi66
   have hxs6:xs=cpN a' k:=by rw [hxs]; rfl
   have hop:w=l'++BSe a' k:=by rw [hw,hxs6]; rfl
   have hlist2:w++cpB (q - k) (a'+k) (q - k)=l++cpB n a n:=by rw [hop]; exact hlist
   have hnl:(nzB xs).length≤6:=by rw [←hxl]; unfold nzB; rw [List.length_map]; exact List.length_filter_le _ _
   clear hw hop
   simp -dsimp (disch:=first | assumption | omega | (simp only [Btz];try omega)) only [↓BtC,Bty,BtA,BtB,eq_self,Nat.reduceLT,Nat.reduceEqDiff,↓reduceIte,reduceCtorEq,↓Bvb,↓Bvf,↓BAH]
   exact BtV (q - k) (by omega) (by omega) ⟨a'+k,v2,w.length,w,by omega,by omega,by omega,hlist2,hg2,rfl⟩
 by_cases hbig:65535<q
 ·have:=hmain 65535 (by omega)
  simp -dsimp (disch:=first | assumption | omega | (simp only [Btz];try omega)) only [↓BtC,Bty,BtA,BtB,eq_self,Nat.reduceEqDiff,↓reduceIte,reduceCtorEq,↓Bu3,↓Bwr,h0,hbig]
  exact this
 ·have:=hmain q (by omega)
  simp -dsimp (disch:=first | assumption | omega | (simp only [Btz];try omega)) only [↓BtC,Bty,BtA,BtB,eq_self,Nat.reduceEqDiff,↓reduceIte,reduceCtorEq,↓Bu3,↓Bwr,h0,hbig]
  exact this
end
section
variable [Bt6]
set_option maxRecDepth 100000
def Bwy:Btx := .seq (.ops [so_ 2 (.box (.t 0)),so_ 3 (.box (.t 1)),po_ 4 (.mov (.c .nilFunc))] [2,3])
 (.seq (.seq (.ops [po_ 5 (.load false 1 (.t 3)),po_ 6 (.bin 3 .lss (.t 5) (ci_ 1))] [2,3,6])
 (.cond (.t 6)
 (.pops [po_ 7 (.iface 9 (.c (.string (str [99,97,110,110,111,116,32,98,101,32,108,101,115,115,32,116,104,97,110,32,49])))),⟨none,.s (.pan (.t 7)),none⟩] [2,3])
 (.skip)))
 (.seq (.ops [po_ 8 (.mkf (.func 38) [] [.t 2,.t 3]),mv_ 4 8] [4])
 (.ret)))
def BwA:List VR:=[.tmp 4]
theorem BzM:Tryd.f29.body.bind (trC Tryd.prog Tryd.f29.ntmps)=some (er Bwy):=by kernel_rfl
theorem Bz3:trR Tryd.prog Tryd.f29.results.toList=some BwA:=by kernel_rfl
def By0:=Btw Bwy.eq_1
theorem By3 {K:TV→Prop} {e:Env} {H:List Ob}:res BwA e H K=res [.tmp 4] e H K:=Btv rfl
def BAc:=(And.intro @By0 @By3)
def Bzw:=BBx 9 Tryd.func29 BzM Bz3 rfl
def Bvi:Btx := .seq (.block 1 (.seq (.draw 1 [po_ 13 (.load false 1 (.t 2)),po_ 14 (.load false 1 (.t 1)),mv_ 15 4,po_ 16 (.slV 1 (.t 14) (some (.t 15)) none),po_ 17 (.lenV (.t 16)),po_ 18 (.min (.t 13) (.t 17)),mv_ 5 18] [0,1,2,4,5])
 (.seq (.ops [mv_ 19 0,po_ 20 (.load false 1 (.t 1)),mv_ 21 4,mv_ 22 4,mv_ 23 5,po_ 24 (.bin 3 .add (.t 22) (.t 23)),mv_ 25 4,mv_ 26 5,po_ 27 (.bin 3 .add (.t 25) (.t 26)),po_ 28 (.gen (.sl3 1) [.t 20,.t 21,.t 24,.t 27]),so_ 29 (.callv (.t 19) [.t 28]),po_ 30 (.un .not (.t 29))] [0,1,2,4,30])
 (.cond (.t 30)
 (.ret)
 (.skip)))))
 (.ops [mv_ 10 4,po_ 11 (.load false 1 (.t 2)),po_ 12 (.bin 3 .add (.t 10) (.t 11)),mv_ 4 12] [0,1,2,4])
def Bvk:Btx := .seq (.seq (.ops [mv_ 6 4,po_ 7 (.load false 1 (.t 1)),po_ 8 (.lenV (.t 7)),po_ 9 (.bin 3 .lss (.t 6) (.t 8))] [0,1,2,4,9])
 (.cond (.t 9)
 (.skip)
 (.exit 0)))
 Bvi
def Bvj:Btx := .block 0 (.loop [0,1,2,4] Bvk)
def BvP:Btx := .seq (.ops [po_ 4 (.mov (ci_ 0))] [0,1,2,4])
 Bvj
def ByX:List VR:=[]
theorem By2:Tryd.f38.body.bind (trC Tryd.prog Tryd.f38.ntmps)=some (er BvP):=by kernel_rfl
theorem By5:trR Tryd.prog Tryd.f38.results.toList=some ByX:=by kernel_rfl
def BuZ:=Btw Bvi.eq_1
def Bux:=Btw Bvk.eq_1
def Bxp:=Btw Bvj.eq_1
def ByA:=Btw BvP.eq_1
def ByQ:=BBx 31 Tryd.func38 By2 By5 rfl
end
section
open Go.RowKit
variable [Bt6]
theorem BVG (s:List UInt8) (H:List Ob):BtJ Tryd.prog 29 [slB s,i64 ((127:Nat):Int)] H (fun x H'=>x = .fn (.func 38) [] [.op H.length 0 [],.op (H.length+1) 0 []]∧H'=H++[.obj 0 (slB s),.obj 0 (i64 ((127:Nat):Int))]):=by
 refine Bzw (by simp) ?_
 have g1:(H++[Ob.obj 0 (slB s)]++[.obj 0 (i64 ((127:Nat):Int))])[H.length+1]?=some (.obj 0 (i64 ((127:Nat):Int))):=by rw [List.getElem?_append_right (by simp)]; simp
 simp -dsimp (disch:=first | assumption | omega | (simp only [Btz];try omega)) only [↓BtC,Bty,BtA,BtB,eq_self,Nat.reduceLT,Nat.reduceEqDiff,↓reduceIte,Nat.reduceAdd,reduceCtorEq,↓BAc,g1]
 try simp
theorem BLu {own:List UInt8} (hown:own.length≤1000000) {I:Nat→List Ob→Prop} {id sid nid L:Nat} {H0:List Ob}
  (hI:∀ j H,I j H→L≤H.length∧H[sid]?=some (.obj 0 (slB own))∧H[nid]?=some (.obj 0 (i64 ((127:Nat):Int))))
  (hy:∀ j H,I j H→127*j<own.length→BCp Tryd.prog id 0 [slB ((own.drop (127*j)).take 127)] H (fun y H'=>y = .val (.bool true)∧I (j+1) H'))
  (h0:I 0 H0) (hL:H0.length=L):BtJ Tryd.prog 38 [.yl id 0,.op sid 0 [],.op nid 0 []] H0 (fun _ H'=>∃ j,own.length≤127*j∧I j H'):=by
 refine ByQ (by simp) ?_
 simp -dsimp (disch:=first | assumption | omega | (simp only [Btz];try omega)) only [↓BtC,Bty,BtA,BtB,eq_self,Nat.reduceEqDiff,↓reduceIte,Nat.reduceAdd,reduceCtorEq,↓ByA,↓Bxp]
 refine Byl (fun m e H=>∃ j,m=own.length - 127*j∧e=[(0,.yl id 0),(1,.op sid 0 []),(2,.op nid 0 []),(4,i64 ((127*j:Nat):Int))]∧127*j≤own.length+127∧I j H) own.length ?_ ?_
 ·exact ⟨0,rfl,rfl,by omega,h0⟩
 rintro m e H ⟨j,rfl,rfl,hj,hIj⟩
 obtain ⟨q1,q2,q3⟩:=hI j H hIj
 by_cases hlt:127*j<own.length
 case neg =>
  simp -dsimp (disch:=first | assumption | omega | (simp only [Btz];try omega)) only [↓BtC,Bty,BtA,BtB,eq_self,Nat.reduceEqDiff,↓reduceIte,reduceCtorEq,↓Bux,q2,hlt]
  exact ⟨by simp,j,by omega,hIj⟩
 have hdl:(own.drop (127*j)).length=own.length - 127*j:=List.length_drop
 by_cases hmin:own.length - 127*j<127
 ·simp -dsimp (disch:=first | assumption | omega | (simp only [Btz];try omega)) only [↓BtC,Bty,BtA,BtB,eq_self,Nat.reduceEqDiff,↓reduceIte,reduceCtorEq,↓Bux,q2,q3,hlt,hmin,↓BuZ]
  have hd:(own.drop (127*j)).take 127=own.drop (127*j):=List.take_of_length_le (by omega)
  rw [←hd]
  refine BCp.mono (hy j H hIj hlt) ?_
  rintro y H' ⟨rfl,hI'⟩
  obtain ⟨r1,r2,r3⟩:=hI _ H' hI'
  simp -dsimp (disch:=first | assumption | omega | (simp only [Btz];try omega)) only [↓BtC,Bty,BtA,BtB,eq_self,Nat.reduceEqDiff,↓reduceIte,reduceCtorEq,r3]
  exact BtV (own.length - 127*(j+1)) (by omega) (by omega) ⟨j+1,rfl,by rw [Nat.mul_add]; rfl,by omega,hI'⟩
 ·simp -dsimp (disch:=first | assumption | omega | (simp only [Btz];try omega)) only [↓BtC,Bty,BtA,BtB,eq_self,Nat.reduceEqDiff,↓reduceIte,reduceCtorEq,Nat.reduceLeDiff,↓Bux,q2,q3,hlt,hmin,↓BuZ]
  refine BCp.mono (hy j H hIj hlt) ?_
  rintro y H' ⟨rfl,hI'⟩
  obtain ⟨r1,r2,r3⟩:=hI _ H' hI'
  simp -dsimp (disch:=first | assumption | omega | (simp only [Btz];try omega)) only [↓BtC,Bty,BtA,BtB,eq_self,Nat.reduceEqDiff,↓reduceIte,reduceCtorEq,r3]
  exact BtV (own.length - 127*(j+1)) (by omega) (by omega) ⟨j+1,rfl,by rw [Nat.mul_add]; rfl,by omega,hI'⟩
theorem BJc:∀ (f g:Nat) (l:List UInt8),l.length≤f→l.length≤g→ownB f l=ownB g l
 | 0,g,l,h1,h2=>by
  have:l=[]:=List.eq_nil_of_length_eq_zero (by omega)
  subst this
  cases g<;>simp [ownB]
 | f+1,0,l,h1,h2=>by
  have:l=[]:=List.eq_nil_of_length_eq_zero (by omega)
  subst this
  simp [ownB]
 | f+1,g+1,l,h1,h2=>by
  rw [ownB,ownB]
  by_cases hn:l=[]
  ·rw [if_pos hn,if_pos hn]
  ·have h0:0<l.length:=List.length_pos_iff.2 hn
   rw [if_neg hn,if_neg hn,BJc f g (l.drop 127) (by rw [List.length_drop]; omega) (by rw [List.length_drop]; omega)]
theorem BM5 {own:List UInt8} {j:Nat} (h:127*j<own.length):ownB own.length (own.drop (127*j))=UInt8.ofNat ((own.drop (127*j)).take 127).length::((own.drop (127*j)).take 127++ownB own.length (own.drop (127*(j+1)))):=by
 have hl:(own.drop (127*j)).length=own.length - 127*j:=List.length_drop
 have hne:own.drop (127*j)≠[]:=fun e=>by rw [e] at hl; simp at hl; omega
 obtain ⟨f,hf⟩:∃ f,own.length=f+1:=⟨own.length - 1,by omega⟩
 have e2:(own.drop (127*j)).drop 127=own.drop (127*(j+1)):=by rw [List.drop_drop]; rfl
 rw [hf,ownB,if_neg hne,e2,BJc f (f+1) _ (by rw [List.length_drop]; omega) (by rw [List.length_drop]; omega),List.cons_append]
theorem BZ6 {l own:List UInt8} (hown:own.length≤100000) (hl:l.length≤10000000) {id v cp:Nat} {H:List Ob} (hx:H[id]?=some (BH4 v l)) {K:TV→List Ob→Prop}
  (hK:∀ H' v' cp',BBK H H' id (BH4 v' (l++ownB own.length own))→K (.os 1 id v' [] 0 (l++ownB own.length own).length cp') H'):BtJ Tryd.prog 16 [.os 1 id v [] 0 l.length cp,slB own] H K:=by
 refine BD1 (by simp) ?_
 have hidl:=(List.getElem?_eq_some_iff.1 hx).1
 simp -dsimp (disch:=first | assumption | omega | (simp only [Btz];try omega)) only [↓BtC,Bty,BtA,BtB,eq_self,Nat.reduceEqDiff,↓reduceIte,Nat.reduceAdd,reduceCtorEq,↓BDT,↓BBB]
 refine Bzz ((BVG own _).mono fun x H1 hx1 => ?_)
 obtain ⟨rfl,rfl⟩:=hx1
 simp -dsimp (disch:=first | assumption | omega | (simp only [Btz];try omega)) only [↓BtC,Bty,BtA,BtB,eq_self,Nat.reduceEqDiff,↓reduceIte]
 refine BUq rfl (by kernel_rfl) rfl rfl ?_
 intro N fn ca cb hc
 have hlen1:(H++[Ob.obj 0 (.os 1 id v [] 0 l.length cp)]++[Ob.obj 0 (slB own),Ob.obj 0 (i64 ((127:Nat):Int))]).length=H.length+3:=by simp
 rw [hlen1]
 refine BtJ.mono (BLu (own:=own) (by omega) (id:=H.length+3) (sid:=H.length+1) (nid:=H.length+1+1) (L:=H.length+4)
  (I:=fun j H2=>H.length+4≤H2.length∧∃ (w:List UInt8) (v' cp':Nat),w++ownB own.length (own.drop (127*j))=l++ownB own.length own∧w.length≤l.length+128*j∧127*j≤own.length+127∧BBK H H2 id (BH4 v' w)∧H2[H.length]?=some (.obj 0 (.os 1 id v' [] 0 w.length cp')) ∧
   H2[H.length+1]?=some (.obj 0 (slB own))∧H2[H.length+1+1]?=some (.obj 0 (i64 ((127:Nat):Int)))∧H2[H.length+3]?=some (.lp .ready none fn N [(2,.op H.length 0 []),(4,.val (.slice none 0 0)),(7,.fn (.func 38) [] [.op (H.length+1) 0 [],.op (H.length+1+1) 0 []])] [8] ca cb)) ?_ ?_ ?_ ?_) ?_
 ·rintro j H2 ⟨h1,w,v',cp',h2,h3,hj,h4,h5,h6,h7,h8⟩
  exact ⟨h1,h6,h7⟩
 ·rintro j H2 ⟨h1,w,v',cp',h2,h3,hj,h4,h5,h6,h7,h8⟩ hlt
  refine BMZ h8 hc rfl rfl rfl ?_
  have a0:=h4.at'
  simp -dsimp (disch:=first | assumption | omega | (simp only [Btz];try omega)) only [↓BtC,Bty,BtA,BtB,eq_self,Nat.reduceEqDiff,↓reduceIte,↓BBp,BJ7,h8]
  have hcl:((own.drop (127*j)).take 127).length≤127:=by rw [List.length_take]; omega
  have hcb:=BM5 hlt
  rw [hcb] at h2
  generalize (own.drop (127*j)).take 127=c at *
  obtain ⟨B,hB⟩:∃ B,B=Ob.lp .busy none fn N [(2,.op H.length 0 []),(4,.val (.slice none 0 0)),(7,.fn (.func 38) [] [.op (H.length+1) 0 [],.op (H.length+1+1) 0 []])] [8] ca cb:=⟨_,rfl⟩
  rw [←hB]
  have hidne:id≠H.length+3:=by omega
  obtain ⟨H3,hH3⟩:∃ H3,H3=H2.set (H.length+3) B:=⟨_,rfl⟩
  have hl3:H3.length=H2.length:=by rw [hH3,List.length_set]
  have c0:H3[H.length]?=some (.obj 0 (.os 1 id v' [] 0 w.length cp')):=by rw [hH3,List.getElem?_set_ne (by omega)]; exact h5
  have c1:H3[id]?=some (BH4 v' w):=by rw [hH3,List.getElem?_set_ne (Ne.symm hidne)]; exact a0
  have hid3:id<H3.length:=by omega
  have c2:∀ X,(H3.set id X)[H.length]?=some (.obj 0 (.os 1 id v' [] 0 w.length cp')):=fun X=>by rw [List.getElem?_set_ne (by omega)]; exact c0
  have c3:∀ X,(H3.set id X)[id]?=some X:=fun X=>by rw [List.getElem?_set_self hid3]
  have htk:(w.map by8).take w.length=w.map by8:=List.take_of_length_le (by simp)
  rw [←hH3]
  simp -dsimp (disch:=first | assumption | omega | (simp only [Btz];try omega)) only [↓BtC,Bty,BtA,BtB,eq_self,Nat.reduceEqDiff,↓reduceIte,Nat.reduceLeDiff,↓BBh,c0,c1,c2,c3,BEO,htk]
  have htk2:(w.map by8++[by8 (UInt8.ofNat c.length)]).take (w.length+1)=w.map by8++[by8 (UInt8.ofNat c.length)]:=List.take_of_length_le (by simp)
  rw [htk2]
  obtain ⟨X,hX⟩:∃ X,X=Ob.obj (v'+1+1) (.arr (w.length+1+c.length) 1 (w.map by8++[by8 (UInt8.ofNat c.length)]++c.map by8)):=⟨_,rfl⟩
  obtain ⟨Y,hY⟩:∃ Y,Y=Ob.obj 0 (.os 1 id (v'+1+1) [] 0 (w.length+1+c.length) (w.length+1+c.length)):=⟨_,rfl⟩
  obtain ⟨T,hT⟩:∃ T,T=[Ob.obj 0 (TV.arr 1 1 [by8 (UInt8.ofNat c.length)])]:=⟨_,rfl⟩
  show BPY _ _ _ _ _ ((H3.set id (Ob.obj (v'+1+1) (.arr (w.length+1+c.length) 1 (w.map by8++[by8 (UInt8.ofNat c.length)]++c.map by8)))).set H.length (Ob.obj 0 (.os 1 id (v'+1+1) [] 0 (w.length+1+c.length) (w.length+1+c.length)))++[Ob.obj 0 (TV.arr 1 1 [by8 (UInt8.ofNat c.length)])])
  rw [←hX,←hY,←hT]
  obtain ⟨Z,hZ⟩:∃ Z,Z=(H3.set id X).set H.length Y++T:=⟨_,rfl⟩
  rw [←hZ]
  have hZl:Z.length=H2.length+1:=by rw [hZ,hT]; simp [hl3]
  have z_at:∀ i,i<H2.length→Z[i]?=((H3.set id X).set H.length Y)[i]?:=fun i hi=>by rw [hZ,List.getElem?_append_left (by simp; omega)]
  have z3:Z[H.length+3]?=some B:=by
   rw [z_at _ (by omega),List.getElem?_set_ne (by omega),List.getElem?_set_ne hidne,hH3,List.getElem?_set_self (by omega)]
  have z0:Z[H.length]?=some Y:=by rw [z_at _ (by omega),List.getElem?_set_self (by simp; omega)]
  have zi:Z[id]?=some X:=by rw [z_at _ (by omega),List.getElem?_set_ne (by omega),List.getElem?_set_self hid3]
  have zo:∀ i,i<H2.length→i≠H.length→i≠id→i≠H.length+3→Z[i]?=H2[i]?:=fun i h1 h2 h3 h4=>by
   rw [z_at _ h1,List.getElem?_set_ne (Ne.symm h2),List.getElem?_set_ne (Ne.symm h3),hH3,List.getElem?_set_ne (Ne.symm h4)]
  clear hZ z_at c0 c1 c2 c3 hH3
  unfold BPY
  rw [z3,hB]
  refine ⟨Z.length,⟨by omega,by omega,.inl (Nat.le_refl _)⟩,rfl,?_⟩
  rw [List.take_of_length_le (by simp)]
  obtain ⟨Rd,hRd⟩:∃ Rd,Rd=Ob.lp .ready none fn N [(2,.op H.length 0 []),(4,.val (.slice none 0 0)),(7,.fn (.func 38) [] [.op (H.length+1) 0 [],.op (H.length+1+1) 0 []])] [8] ca cb:=⟨_,rfl⟩
  rw [←hRd]
  have hwm:X=BH4 (v'+1+1) (w++UInt8.ofNat c.length::c):=by
   rw [hX,BH4]
   simp only [List.length_append,List.length_cons,List.map_append,List.map_cons,List.append_assoc,List.singleton_append]
   congr 2; omega
  have hwl2:(w++UInt8.ofNat c.length::c).length=w.length+1+c.length:=by simp; omega
  refine ⟨by simp; omega,w++UInt8.ofNat c.length::c,v'+1+1,w.length+1+c.length,by rw [List.append_assoc]; exact h2,by rw [hwl2]; omega,by omega,⟨?_,fun i q1 q2 => ?_,by simp; omega⟩,?_,?_,?_,?_⟩
  ·rw [List.getElem?_set_ne (Ne.symm hidne),zi,hwm]
  ·rw [List.getElem?_set_ne (by omega),zo i (by omega) (by omega) q2 (by omega)]; exact h4.low i q1 q2
  ·rw [List.getElem?_set_ne (by omega),z0,hY,hwl2]
  ·rw [List.getElem?_set_ne (by omega),zo _ (by omega) (by omega) (by omega) (by omega)]; exact h6
  ·rw [List.getElem?_set_ne (by omega),zo _ (by omega) (by omega) (by omega) (by omega)]; exact h7
  ·rw [List.getElem?_set_self (by omega)]
 ·refine ⟨by simp,l,v,cp,rfl,by omega,by omega,⟨?_,fun i q1 q2 => ?_,by simp⟩,?_,?_,?_,?_⟩
  ·rw [List.append_assoc,List.append_assoc,List.getElem?_append_left hidl]; exact hx
  ·rw [List.append_assoc,List.append_assoc,List.getElem?_append_left q1]
  ·simp
  ·simp
  ·rw [List.append_assoc,List.append_assoc,List.getElem?_append_right (by omega),show H.length+1+1 - H.length=2 by omega]; rfl
  ·simp
 ·simp
 ·rintro x H' ⟨j,hj,h1,w,v',cp',h2,h3,hj2,h4,h5,h6,h7,h8⟩
  have hd0:own.drop (127*j)=[]:=List.drop_of_length_le (by omega)
  have hnil:ownB own.length []=[]:=by cases own.length<;>simp [ownB]
  rw [hd0,hnil,List.append_nil] at h2
  unfold BHq
  rw [h8]
  have g0:∀ X,(H'.set (H.length+3) X)[H.length]?=some (.obj 0 (.os 1 id v' [] 0 w.length cp')):=fun X=>by rw [List.getElem?_set_ne (by omega)]; exact h5
  have hg:∀ X,BBK H (H'.set (H.length+3) X) id (BH4 v' w):=fun X=>⟨by rw [List.getElem?_set_ne (by omega)]; exact h4.at',fun i q1 q2=>by rw [List.getElem?_set_ne (by omega)]; exact h4.low i q1 q2,by simp; omega⟩
  simp -dsimp (disch:=first | assumption | omega | (simp only [Btz];try omega)) only [↓BtC,Bty,BtA,BtB,eq_self,↓reduceIte,↓BBs,g0,↓BDS]
  subst h2
  exact hK _ _ _ (hg _)
end
section
open Go.RowKit
variable [Bt6]
theorem BJz.keep {base:List UInt8} {fid:Nat} {H H':List Ob} (h:BJz base fid H) (hk:∀ i,i<H.length→H'[i]?=H[i]?):BJz base fid H':=by
 have e:∀ (i:Nat) (o:Ob),H[i]?=some o→H'[i]?=some o:=fun i o ho=>by rw [hk i (List.getElem?_eq_some_iff.1 ho).1]; exact ho
 rcases h with ⟨ps,k,v,cp,h1,h2,h3⟩ | ⟨mi,es,h1,h2,h3⟩
 ·exact .inl ⟨ps,k,v,cp,e _ _ h1,e _ _ h2,h3⟩
 ·exact .inr ⟨mi,es,e _ _ h1,e _ _ h2,h3⟩
set_option maxRecDepth 100000 in
theorem BYK {base target:List UInt8} (hb:base.length≤100000) (ht:target.length≤100000) (I:Nat→Nat→List UInt8→Prop) (hI0:I 0 0 (szB 4 base.length++szB 4 target.length))
  (hskip:∀ i own out a n,I i own out→own≤i→i<target.length→Mat base (target.drop i) a n→n<8→I (i+1) own out)
  (hcopy:∀ i own out a n,I i own out→own≤i→i<target.length→Mat base (target.drop i) a n→8≤n→I (i+n) (i+n) (out++ownB (i - own) ((target.drop own).take (i - own))++cpB n a n))
  (hbd:∀ i own out,I i own out→out.length≤1000000) :
  Bzj Tryd.prog 5 [slB base,slB target] (fun x=>∃ own out,I target.length own out∧own≤target.length∧x=slB (out++ownB (target.length - own) (target.drop own))):=by
 refine BtJ.toFreshV (BEd (by simp) ?_)
 have hmx:¬ 100000<base.length:=by omega
 have hmx2:¬ 100000<target.length:=by omega
 have key:vwp Tryd.prog BxY (BG8 BBX fun x H'=>Bt1 (frs H' x) fun x=>∃ own out,I target.length own out∧own≤target.length∧x=slB (out++ownB (target.length - own) (target.drop own))) [(0,slB base),(1,slB target),(16,.val (.bool false))] []:=by
  simp -dsimp (disch:=first | assumption | omega | (simp only [Btz];try omega)) only [↓BtC,Bty,BtA,BtB,eq_self,↓reduceIte,↓BEU]
  refine Bzz (BL2 hb fun H1 fid _ _ hF => ?_)
  simp -dsimp (disch:=first | assumption | omega | (simp only [Btz];try omega)) only [↓BtC,Bty,BtA,BtB,eq_self,Nat.reduceEqDiff,↓reduceIte,reduceCtorEq,↓BE7]
  refine Bzz (BLm (l:=[]) (n:=base.length) (id:=H1.length) (v:=0) (cp:=0) (by omega) (by simp) (.inr ⟨rfl,rfl,rfl⟩) fun H2 v2 hG2 => ?_)
  rw [List.nil_append] at hG2 ⊢
  have hz1:=BKb 4 base.length
  have hz2:=BKb 4 target.length
  simp -dsimp (disch:=first | assumption | omega | (simp only [Btz];try omega)) only [↓BtC,Bty,BtA,BtB,eq_self,Nat.reduceEqDiff,↓reduceIte,reduceCtorEq]
  refine Bzz (BLm (l:=szB 4 base.length) (n:=target.length) (id:=H1.length) (v:=v2) (cp:=(szB 4 base.length).length) (by omega) (by omega) (.inl ⟨rfl,hG2.at'⟩) fun H3 v3 hG3 => ?_)
  have hlow:∀ i,i<H1.length→H3[i]?=H1[i]?:=fun i hi=>by
   rw [hG3.low i (by have:=hG2.len; omega) (by omega),hG2.low i hi (by omega)]
  have hat:=hG3.at'
  have hl31:H1.length<H3.length:=(List.getElem?_eq_some_iff.1 hat).1
  generalize hd0:szB 4 base.length++szB 4 target.length=d0 at *
  clear hG2 hG3
  simp -dsimp (disch:=first | assumption | omega | (simp only [Btz];try omega)) only [↓BtC,Bty,BtA,BtB,eq_self,Nat.reduceEqDiff,↓reduceIte,reduceCtorEq,↓BFo,↓BFk,↓BFp]
  refine Byl (fun m e H4=>∃ (i own v cp:Nat) (out:List UInt8),m=target.length - i∧own≤i∧i≤target.length∧I i own out∧(∀ j,j<H1.length→H4[j]?=H1[j]?)∧H3.length≤H4.length∧H4[H1.length]?=some (BH4 v out) ∧
   e=[(1,slB target),(5,.op fid 0 []),(6,.os 1 H1.length v [] 0 out.length cp),(7,i64 (own:Int)),(8,i64 (i:Int))]) target.length ?_ ?_
  ·exact ⟨0,0,v3,d0.length,d0,rfl,Nat.le_refl _,Nat.zero_le _,hI0,hlow,Nat.le_refl _,hat,by simp [forget,get]⟩
  rintro m e H4 ⟨i,own,v,cp,out,rfl,hoi,hi,hI,hlo,hle,ho,rfl⟩
  have hob:=hbd i own out hI
  have hF4:BJz base fid H4:=hF.keep hlo
  by_cases hit:i<target.length
  ·have hdl:(target.drop i).length=target.length - i:=List.length_drop
   simp -dsimp (disch:=first | assumption | omega | (simp only [Btz];try omega)) only [↓BtC,Bty,BtA,BtB,eq_self,Nat.reduceEqDiff,↓reduceIte,↓Bz1,hit,↓BFe]
   refine Bzz ((BQB (b:=target.drop i) (by omega) (by omega) hF4).mono fun x H5 hx => ?_)
   obtain ⟨⟨T,rfl⟩,a,n,rfl,hM⟩:=hx
   have hn1:=hM.1
   have hn2:=hM.2.1
   by_cases hn8:n<8
   ·simp -dsimp (disch:=first | assumption | omega | (simp only [Btz];try omega)) only [↓BtC,Bty,BtA,BtB,eq_self,Nat.reduceEqDiff,↓reduceIte,↓BzL,hn8]
    have h4l:H1.length<H4.length:=(List.getElem?_eq_some_iff.1 ho).1
    exact BtV (target.length - (i+1)) (by omega) (by simp; omega) ⟨i+1,own,v,cp,out,rfl,by omega,by omega,hskip i own out a n hI hoi hit hM hn8,fun j hj=>by rw [List.getElem?_append_left (by omega)]; exact hlo j hj,by simp; omega,by rw [List.getElem?_append_left h4l]; exact ho,by simp [forget,get]⟩
   ·simp -dsimp (disch:=first | assumption | omega | (simp only [Btz];try omega)) only [↓BtC,Bty,BtA,BtB,eq_self,Nat.reduceEqDiff,↓reduceIte,↓BzL,hn8,↓BEY]
    have h4l:H1.length<H4.length:=(List.getElem?_eq_some_iff.1 ho).1
    have hpl:((target.drop own).take (i - own)).length=i - own:=by simp; omega
    have hol:=BGt (i - own) ((target.drop own).take (i - own))
    have hnext:=hcopy i own out a n hI hoi hit hM (by omega)
    have hnb:=hbd _ _ _ hnext
    refine Bzz (BZ6 (l:=out) (own:=(target.drop own).take (i - own)) (by omega) (by omega) (by rw [List.getElem?_append_left h4l]; exact ho) fun H5 v5 cp5 hG5 => ?_)
    rw [hpl] at hG5 ⊢
    have h5b:(out++ownB (i - own) ((target.drop own).take (i - own))).length≤10000000:=by simp only [List.length_append]; omega
    generalize out++ownB (i - own) ((target.drop own).take (i - own))=out5 at *
    simp -dsimp (disch:=first | assumption | omega | (simp only [Btz];try omega)) only [↓BtC,Bty,BtA,BtB,eq_self,Nat.reduceEqDiff,↓reduceIte]
    have hG5a:=hG5.at'
    refine Bzz (BRi (l:=out5) (a:=a) (n:=n) (by omega) h5b hG5a fun H6 v6 cp6 hG6 => ?_)
    have hat6:=hG6.at'
    have hlo6:∀ j,j<H1.length→H6[j]?=H1[j]?:=fun j hj=>by
     have h5l:=hG5.len
     rw [List.length_append] at h5l
     rw [hG6.low j (by omega) (by omega),hG5.low j (by simp; omega) (by omega),List.getElem?_append_left (by omega)]; exact hlo j hj
    have hlen6:H3.length≤H6.length:=by
     have h5l:=hG5.len
     have h6l:=hG6.len
     rw [List.length_append] at h5l
     omega
    generalize out5++cpB n a n=out6 at *
    simp -dsimp (disch:=first | assumption | omega | (simp only [Btz];try omega)) only [↓BtC,Bty,BtA,BtB,eq_self,Nat.reduceEqDiff,↓reduceIte]
    exact BtV (target.length - (i+n)) (by omega) (by omega) ⟨i+n,i+n,v6,cp6,out6,rfl,Nat.le_refl _,by omega,hnext,hlo6,hlen6,hat6,by simp [forget,get]⟩
  ·have hie:i=target.length:=by omega
   subst hie
   simp -dsimp (disch:=first | assumption | omega | (simp only [Btz];try omega)) only [↓BtC,Bty,BtA,BtB,eq_self,Nat.reduceEqDiff,↓reduceIte,↓Bz1,hit,↓BFx]
   have hdl:(target.drop own).length=target.length - own:=List.length_drop
   refine Bzz (BZ6 (l:=out) (own:=target.drop own) (by omega) (by omega) ho fun H5 v5 cp5 hG5 => ?_)
   have ha:=hG5.at'
   rw [hdl] at ha ⊢
   have htk:((out++ownB (target.length - own) (target.drop own)).map by8).take (out++ownB (target.length - own) (target.drop own)).length=(out++ownB (target.length - own) (target.drop own)).map by8:=List.take_of_length_le (by simp)
   generalize hres:out++ownB (target.length - own) (target.drop own)=res at *
   simp -dsimp (disch:=first | assumption | omega | (simp only [Btz];try omega)) only [↓BtC,Bty,BtA,BtB,eq_self,↓reduceIte,↓BzB,ha,htk]
   exact ⟨own,out,hI,hoi,by rw [hres]⟩
 by_cases hlt:base.length<target.length
 ·simp -dsimp (disch:=first | assumption | omega | (simp only [Btz];try omega)) only [↓BtC,Bty,BtA,BtB,eq_self,Nat.reduceEqDiff,↓reduceIte,Nat.reduceAdd,reduceCtorEq,↓Bxr,↓Bvv,hlt,hmx2]
  exact key
 ·simp -dsimp (disch:=first | assumption | omega | (simp only [Btz];try omega)) only [↓BtC,Bty,BtA,BtB,eq_self,Nat.reduceEqDiff,↓reduceIte,Nat.reduceAdd,reduceCtorEq,↓Bxr,↓Bvv,hlt,hmx]
  exact key
end
section
open Go.RowKit
variable [Bt6]
structure BXn (base target:List UInt8) (i own:Nat) (out:List UInt8):Prop where
 hoi:own≤i
 hi:i≤target.length
 ops:∃ ops,out=szB 4 base.length++(szB 4 target.length++ops)∧Ops base ops (target.take own)
 len:out.length≤6+own+own / 127
theorem BMr {l:List UInt8} {o i n:Nat} (h:o≤i):l.take (i+n)=l.take o++(l.drop o).take (i - o)++(l.drop i).take n:=by
 rw [List.take_add,show l.take i=l.take o++(l.drop o).take (i - o) by
  conv=>lhs; rw [show i=o+(i - o) by omega,List.take_add]]
theorem BXn.copy {base target:List UInt8} (hb:base.length≤100000) (ht:target.length≤100000) {i own a n:Nat} {out:List UInt8} (h:BXn base target i own out) (hM:Mat base (target.drop i) a n) (hn:8≤n) :
  BXn base target (i+n) (i+n) (out++ownB (i - own) ((target.drop own).take (i - own))++cpB n a n):=by
 obtain ⟨h1,h2,⟨ops,ho,hO⟩,h4⟩:=h
 obtain ⟨m1,m2,m3⟩:=hM
 rw [List.length_drop] at m2
 have hpl:((target.drop own).take (i - own)).length=i - own:=by simp; omega
 have hol:=BGt (i - own) ((target.drop own).take (i - own))
 have hcl:=BN5 n a n (Nat.le_refl _) (by omega)
 refine ⟨Nat.le_refl _,by omega,⟨ops++ownB (i - own) ((target.drop own).take (i - own))++cpB n a n,by rw [ho]; simp only [List.append_assoc],?_⟩,?_⟩
 ·rw [BMr h1,←m3]
  exact (hO.app (Ops.owns _ _ (by omega))).app (Ops.copies (by omega) n a n (Nat.le_refl _) m1)
 ·simp only [List.length_append]
  omega
theorem BMf {base target:List UInt8} (hb:base.length≤100000) (ht:target.length≤100000):Bzj Tryd.prog 5 [slB base,slB target] (fun x=>∃ d,x=slB d∧BTZ base target d):=by
 have hz1:=BKW (f:=4) (n:=base.length) (by omega)
 have hz2:=BKW (f:=4) (n:=target.length) (by omega)
 refine (BYK hb ht (BXn base target) ⟨Nat.le_refl _,Nat.zero_le _,⟨[],by simp,Ops.nil⟩,by simp; omega⟩ ?_ ?_ ?_).mono ?_
 ·rintro i own out a n ⟨h1,h2,h3,h4⟩ hoi hit hM hn
  exact ⟨by omega,by omega,h3,h4⟩
 ·intro i own out a n h hoi hit hM hn
  exact h.copy hb ht hM hn
 ·rintro i own out ⟨h1,h2,h3,h4⟩
  omega
 ·rintro x ⟨own,out,⟨h1,h2,⟨ops,ho,hO⟩,h4⟩,hol,rfl⟩
  have hlen:=BGt (target.length - own) (target.drop own)
  rw [List.length_drop] at hlen
  refine ⟨_,rfl,⟨ops++ownB (target.length - own) (target.drop own),by rw [ho]; simp only [List.append_assoc],?_⟩,?_⟩
  ·have:=hO.app (Ops.owns (base:=base) (target.length - own) (target.drop own) (by simp))
   rwa [List.take_append_drop] at this
  ·rw [List.length_append]; omega
theorem BPn {base target:List UInt8} (hb:base.length≤1000000) (ht:target.length≤1000000) (h:100000<base.length∨100000<target.length):Bzj Tryd.prog 5 [slB base,slB target] (fun x=>x = .val (.slice none 0 0)):=by
 refine BtJ.toFreshV (BEd (by simp) ?_)
 by_cases hlt:base.length<target.length
 ·have hmx:100000<target.length:=by omega
  simp -dsimp (disch:=first | assumption | omega | (simp only [Btz];try omega)) only [↓BtC,Bty,BtA,BtB,eq_self,Nat.reduceEqDiff,↓reduceIte,Nat.reduceAdd,reduceCtorEq,↓Bxr,↓Bvv,hlt,hmx,↓BzB]
 ·have hmx:100000<base.length:=by omega
  simp -dsimp (disch:=first | assumption | omega | (simp only [Btz];try omega)) only [↓BtC,Bty,BtA,BtB,eq_self,Nat.reduceEqDiff,↓reduceIte,Nat.reduceAdd,reduceCtorEq,↓Bxr,↓Bvv,hlt,hmx,↓BzB]
end
section
open Go.RowKit
variable [Bt6]
theorem BTJ {b:List UInt8} {n m:Nat} {r:List UInt8} (h:szs b=some (n,m,r)):r.length≤b.length:=by
 unfold szs at h
 split at h
 ·cases h
 ·split at h
  ·cases h
  ·simp only [Option.some.injEq,Prod.mk.injEq] at h
   obtain ⟨_,_,rfl⟩:=h
   exact Nat.le_trans (BDG _ _ _ _ _) (BDG _ _ _ _ _)
def Buk (base d:List UInt8) (x:TV):Prop:=match BvO base d with
 | none=>∃ y,x = .tup [y,tb false]∧BuI y=false
 | some out=>x = .tup [slB out,tb true]
theorem Buk.none {base d:List UInt8} {y:TV} (h:BvO base d=none) (hy:BuI y=false):Buk base d (.tup [y,tb false]):=by rw [Buk,h]; exact ⟨y,rfl,hy⟩
theorem BPO (base d:List UInt8) (hl:d.length≤1000000) (hb:base.length≤1000000):ByW Tryd.prog 11 [slB base,slB d] (Buk base d):=by
 refine BtJ.toPureV (BHW (by simp) ?_)
 simp -dsimp (disch:=first | assumption | omega) only [↓BtC,Bty,BtA,BtB,eq_self,Nat.reduceEqDiff,↓reduceIte,Nat.reduceAdd,reduceCtorEq,↓BtI]
 refine (BRU d hl).calls rfl ?_
 intro x hx
 unfold BNw at hx
 cases hs:szs d with
 | none =>
  rw [hs] at hx; subst hx
  simp -dsimp (disch:=first | assumption | omega) only [↓BtC,Bty,BtA,BtB,eq_self,Nat.reduceEqDiff,↓reduceIte,reduceCtorEq,↓BtI]
  exact Buk.none (by simp [BvO,hs]) rfl
 | some q =>
  obtain ⟨n,m,r⟩:=q
  have hrl:=BTJ hs
  rw [hs] at hx; subst hx
  simp -dsimp (disch:=first | assumption | omega) only [↓BtC,Bty,BtA,BtB,eq_self,Nat.reduceEqDiff,↓reduceIte,reduceCtorEq,↓BtI]
  refine Bt0 (fun hn => ?_) (fun hn => ?_)
  case refine_2 =>
   simp -dsimp (disch:=first | assumption | omega) only [↓BtC,Bty,BtA,BtB,eq_self,Nat.reduceEqDiff,↓reduceIte,reduceCtorEq,↓BtI]
   exact Buk.none (by simp [BvO,hs,hn]) rfl
  simp -dsimp (disch:=first | assumption | omega) only [↓BtC,Bty,BtA,BtB,eq_self,Nat.reduceEqDiff,↓reduceIte,reduceCtorEq]
  refine Bt0 (fun hm => ?_) (fun hm => ?_)
  case refine_1 =>
   simp -dsimp (disch:=first | assumption | omega) only [↓BtC,Bty,BtA,BtB,eq_self,Nat.reduceEqDiff,↓reduceIte,↓BtI]
   exact Buk.none (by simp [BvO,hs,hn,show ¬ m≤100000 from by omega]) rfl
  simp -dsimp (disch:=first | assumption | omega) only [↓BtC,Bty,BtA,BtB,eq_self,Nat.reduceEqDiff,↓reduceIte,reduceCtorEq,↓BtI]
  have hfin:BvO base d=BIr base m r.length [] r:=by simp [BvO,hs,hn,show m≤100000 from by omega]
  refine Byl (fun k e H=>∃ (ver N cp:Nat) (cs:List TV) (out r':List UInt8),k=r'.length∧r'.length≤1000000∧out.length≤m∧cs.take out.length=out.map by8∧out.length≤cs.length∧BIr base m r'.length out r'=BvO base d ∧
   e=[(0,slB base),(7,i64 m),(8,slB r'),(10,.os 1 0 ver [] 0 out.length cp)]∧H=[.obj ver (.arr N 1 cs)]) r.length ?_ ?_
  ·exact ⟨0,0,0,_,[],r,rfl,by omega,by simp,rfl,by simp,hfin.symm,rfl,rfl⟩
  ·rintro k e H ⟨ver,N,cp,cs,out,r',rfl,hr',hout,hcs,hcl,hrun,rfl,rfl⟩
   cases r' with
   | nil =>
    have hd:BvO base d=if out.length=m then some out else none:=by rw [←hrun]; rfl
    simp -dsimp (disch:=first | assumption | omega) only [↓BtC,Bty,BtA,BtB,eq_self,Nat.reduceLT,Nat.reduceEqDiff,↓reduceIte,reduceCtorEq,↓BtI,hcs]
    by_cases hm:out.length=m
    ·rw [Buk,hd,if_pos hm,decide_eq_true hm]
    ·rw [decide_eq_false hm]
     exact Buk.none (by rw [hd,if_neg hm]) rfl
   | cons b r' =>
    have hb:=b.toNat_lt
    simp only [List.length_cons] at hr'
    rw [List.length_cons,BIr] at hrun
    have hd:BxC base m out b r'=none→BvO base d=none:=fun h=>by rw [←hrun,h]
    simp -dsimp (disch:=first | assumption | omega) only [↓BtC,Bty,BtA,BtB,eq_self,Nat.reduceEqDiff,↓reduceIte,reduceCtorEq,Nat.reduceLeDiff,↓BtI]
    refine Bt0 (fun h0 => ?_) (fun h0 => ?_)
    ·simp -dsimp (disch:=first | assumption | omega) only [↓BtC,Bty,BtA,BtB,eq_self,Nat.reduceEqDiff,↓reduceIte,↓BtI]
     exact Buk.none (hd (by simp [BxC,h0])) rfl
    by_cases h128:b.toNat<128
    ·simp -dsimp (disch:=first | assumption | omega) only [↓BtC,Bty,BtA,BtB,eq_self,Nat.reduceEqDiff,↓reduceIte,reduceCtorEq,↓BtI]
     refine Bt0 (fun hr => ?_) (fun hr => ?_)
     ·simp -dsimp (disch:=first | assumption | omega) only [↓BtC,Bty,BtA,BtB,eq_self,Nat.reduceEqDiff,↓reduceIte,reduceCtorEq,↓BtI]
      exact Buk.none (hd (by rw [BxC,if_neg h0,if_pos h128,if_neg (by omega)])) rfl
     ·simp -dsimp (disch:=first | assumption | omega) only [↓BtC,Bty,BtA,BtB,eq_self,Nat.reduceEqDiff,↓reduceIte,reduceCtorEq]
      refine Bt0 (fun hm2 => ?_) (fun hm2 => ?_)
      ·simp -dsimp (disch:=first | assumption | omega) only [↓BtC,Bty,BtA,BtB,eq_self,Nat.reduceEqDiff,↓reduceIte,↓BtI]
       exact Buk.none (hd (by rw [BxC,if_neg h0,if_pos h128,if_neg (by omega)])) rfl
      ·have hs:BxC base m out b r'=some (out++r'.take b.toNat,r'.drop b.toNat):=by rw [BxC,if_neg h0,if_pos h128,if_pos (by omega)]
       rw [hs] at hrun
       simp -dsimp (disch:=first | assumption | omega) only [↓BtC,Bty,BtA,BtB,eq_self,Nat.reduceEqDiff,↓reduceIte,reduceCtorEq,↓BtI]
       have hlen:(out++r'.take b.toNat).length=out.length+b.toNat:=by simp; omega
       refine BtV (r'.length - b.toNat) (by omega) (by simp) ⟨ver+1,out.length+b.toNat,out.length+b.toNat,(out++r'.take b.toNat).map by8,out++r'.take b.toNat,r'.drop b.toNat,by simp,by simp; omega,by omega,by rw [List.take_of_length_le (by simp)],by simp,?_,?_,?_⟩
       ·rw [←hrun]; exact BwK _ _ _ _ (by simp) (by simp)
       ·rw [hlen]; rfl
       ·rw [List.map_append,←hcs]
    ·simp -dsimp (disch:=first | assumption | omega) only [↓BtC,Bty,BtA,BtB,eq_self,Nat.reduceEqDiff,↓reduceIte,reduceCtorEq,↓BtI]
     refine (BMS r' b.toNat 0 3 (by omega) (by omega) (by omega) (by omega) (by omega)).calls rfl ?_
     rintro x ⟨a,r1,ok1,rfl,hr1,ha,h1,h2⟩
     simp -dsimp (disch:=first | assumption | omega) only [↓BtC,Bty,BtA,BtB,eq_self,Nat.reduceEqDiff,↓reduceIte,reduceCtorEq,↓BtI]
     refine (BMS r1 b.toNat 4 6 (by omega) (by omega) (by omega) (by omega) (by omega)).calls rfl ?_
     rintro x ⟨n2,r2,ok2,rfl,hr2,hn2,h3,h4⟩
     have hs:BxC base m out b r'=match nbG 4 (b.toNat % 16) 0 0 r' false with
      | (a,r1,bad1)=>match nbG 4 (b.toNat / 16 % 8) 0 0 r1 bad1 with
       | (n,r2,bad2)=>if bad2=false∧a+(if n=0 then 65536 else n)≤base.length∧out.length+(if n=0 then 65536 else n)≤m then
         some (out++(base.drop a).take (if n=0 then 65536 else n),r2) else none:=by rw [BxC,if_neg h0,if_neg h128]
     have e1:nbG 4 (b.toNat % 16) 0 0 r' false=nbG (3+1 - 0) (b.toNat / 2 ^ 0) 0 0 r' false:=by
      rw [show b.toNat / 2 ^ 0=b.toNat from by simp]; exact BIu 4 _ _ _ _ _
     have e2:∀ bad,nbG 4 (b.toNat / 16 % 8) 0 0 r1 bad=nbG (6+1 - 4) (b.toNat / 2 ^ 4) 0 0 r1 bad:=fun bad=>by
      rw [BEI 3 _ _ _ _ _ (by omega)]; exact BIu 3 _ _ _ _ _
     rw [e1] at hs
     cases ok1 with
     | false =>
      have h2:=h2 rfl
      have hn:BxC base m out b r'=none:=by
       rw [hs]
       generalize nbG (3+1 - 0) (b.toNat / 2 ^ 0) 0 0 r' false=g at h2 ⊢
       obtain ⟨a',r1',bad1⟩:=g
       simp only at h2 ⊢
       subst h2
       have hb2:=BGx 4 (b.toNat / 16 % 8) 0 0 r1'
       generalize nbG 4 (b.toNat / 16 % 8) 0 0 r1' true=g at hb2 ⊢
       obtain ⟨n',r2',bad2⟩:=g
       simp only at hb2 ⊢
       subst hb2
       simp
      simp -dsimp (disch:=first | assumption | omega) only [↓BtC,Bty,BtA,BtB,eq_self,Nat.reduceEqDiff,↓reduceIte,reduceCtorEq,↓BtI]
      exact Buk.none (hd hn) rfl
     | true =>
      rw [h1 rfl] at hs
      simp only [e2] at hs
      have hk1:=BBW 4 (b.toNat % 16) 0 0 r' false
      rw [e1,h1 rfl] at hk1
      simp only at hk1
      have hk2:=BBW (6+1 - 4) (b.toNat / 2 ^ 4) 0 0 r1 false
      cases ok2 with
      | false =>
       have h4:=h4 rfl
       have hn:BxC base m out b r'=none:=by
        rw [hs]
        generalize nbG (6+1 - 4) (b.toNat / 2 ^ 4) 0 0 r1 false=g at h4 ⊢
        obtain ⟨n',r2',bad2⟩:=g
        simp only at h4 ⊢
        subst h4
        simp
       simp -dsimp (disch:=first | assumption | omega) only [↓BtC,Bty,BtA,BtB,eq_self,Nat.reduceEqDiff,↓reduceIte,reduceCtorEq,↓BtI]
       exact Buk.none (hd hn) rfl
      | true =>
       rw [h3 rfl] at hs hk2
       simp only [true_and] at hs hk2
       simp -dsimp (disch:=first | assumption | omega) only [↓BtC,Bty,BtA,BtB,eq_self,Nat.reduceEqDiff,↓reduceIte,reduceCtorEq,↓BtI]
       obtain ⟨sz,hsz⟩:∃ sz,sz=if n2=0 then 65536 else n2:=⟨_,rfl⟩
       rw [←hsz] at hs
       refine Bt0 (fun hz => ?_) (fun hz => ?_)
       ·
        rw [if_pos hz] at hsz
        simp -dsimp (disch:=first | assumption | omega) only [↓BtC,Bty,BtA,BtB,eq_self,Nat.reduceEqDiff,↓reduceIte,reduceCtorEq,↓BtI]
        refine Bt0 (fun hr => ?_) (fun hr => ?_)
        ·simp -dsimp (disch:=first | assumption | omega) only [↓BtC,Bty,BtA,BtB,eq_self,Nat.reduceEqDiff,↓reduceIte,reduceCtorEq,↓BtI]
         exact Buk.none (hd (by rw [hs,if_neg (by omega)])) rfl
        ·simp -dsimp (disch:=first | assumption | omega) only [↓BtC,Bty,BtA,BtB,eq_self,Nat.reduceEqDiff,↓reduceIte,reduceCtorEq]
         refine Bt0 (fun hm2 => ?_) (fun hm2 => ?_)
         ·simp -dsimp (disch:=first | assumption | omega) only [↓BtC,Bty,BtA,BtB,eq_self,Nat.reduceEqDiff,↓reduceIte,↓BtI]
          exact Buk.none (hd (by rw [hs,if_neg (by omega)])) rfl
         ·rw [if_pos (by omega)] at hs
          rw [hs] at hrun
          have hl2:(base.drop a).length=base.length - a:=by simp
          subst hsz
          simp -dsimp (disch:=first | assumption | omega) only [↓BtC,Bty,BtA,BtB,eq_self,Nat.reduceEqDiff,↓reduceIte,reduceCtorEq,Nat.reduceLeDiff,↓BtI]
          have hlen:(out++(base.drop a).take 65536).length=out.length+65536:=by simp; omega
          refine BtV r2.length (by omega) (by simp) ⟨ver+1,out.length+65536,out.length+65536,(out++(base.drop a).take 65536).map by8,out++(base.drop a).take 65536,r2,rfl,by omega,by omega,by rw [List.take_of_length_le (by simp)],by simp,?_,?_,?_⟩
          ·rw [←hrun]; exact BwK _ _ _ _ (by simp) (by omega)
          ·rw [hlen]; rfl
          ·rw [List.map_append,←hcs]
       ·
        rw [if_neg hz] at hsz
        simp -dsimp (disch:=first | assumption | omega) only [↓BtC,Bty,BtA,BtB,eq_self,Nat.reduceEqDiff,↓reduceIte,reduceCtorEq,↓BtI]
        refine Bt0 (fun hr => ?_) (fun hr => ?_)
        ·simp -dsimp (disch:=first | assumption | omega) only [↓BtC,Bty,BtA,BtB,eq_self,Nat.reduceEqDiff,↓reduceIte,reduceCtorEq,↓BtI]
         exact Buk.none (hd (by rw [hs,if_neg (by omega)])) rfl
        ·simp -dsimp (disch:=first | assumption | omega) only [↓BtC,Bty,BtA,BtB,eq_self,Nat.reduceEqDiff,↓reduceIte,reduceCtorEq]
         refine Bt0 (fun hm2 => ?_) (fun hm2 => ?_)
         ·simp -dsimp (disch:=first | assumption | omega) only [↓BtC,Bty,BtA,BtB,eq_self,Nat.reduceEqDiff,↓reduceIte,↓BtI]
          exact Buk.none (hd (by rw [hs,if_neg (by omega)])) rfl
         ·rw [if_pos (by omega)] at hs
          rw [hs] at hrun
          have hl2:(base.drop a).length=base.length - a:=by simp
          subst hsz
          simp -dsimp (disch:=first | assumption | omega) only [↓BtC,Bty,BtA,BtB,eq_self,Nat.reduceEqDiff,↓reduceIte,reduceCtorEq,↓BtI]
          have hlen:(out++(base.drop a).take sz).length=out.length+sz:=by simp; omega
          refine BtV r2.length (by omega) (by simp) ⟨ver+1,out.length+sz,out.length+sz,(out++(base.drop a).take sz).map by8,out++(base.drop a).take sz,r2,rfl,by omega,by omega,by rw [List.take_of_length_le (by simp)],by simp,?_,?_,?_⟩
          ·rw [←hrun]; exact BwK _ _ _ _ (by simp) (by omega)
          ·rw [hlen]; rfl
          ·rw [List.map_append,←hcs]
end
section
variable [Bt6]
set_option maxRecDepth 100000
def Bx6:Btx := .seq (.seq (.ops [mv_ 28 0,po_ 29 (.lenV (.t 28)),mv_ 30 1,po_ 31 (.lenV (.t 30)),po_ 32 (.bin 3 .add (.t 29) (.t 31)),po_ 33 (.bin 3 .gtr (.t 32) (ci_ 300000))] [0,1,33])
 (.cond (.t 33)
 (.seq (.ops [po_ 4 (.mov (.c (.bool true)))] [4])
  (.ret))
 (.skip)))
 (.seq (.ops [mv_ 34 0,mv_ 35 1,so_ 36 (.call 5 [.t 34,.t 35]),mv_ 5 36] [5])
 (.seq (.ops [mv_ 37 5,po_ 38 (.lenV (.t 37)),po_ 39 (.bin 3 .eql (.t 38) (ci_ 0)),mv_ 4 39] [4])
 (.ret)))
def BvX:Btx := .cond (.t 27)
 Bx6
 (.skip)
def Byk:Btx := .seq (.ops [mv_ 77 9,mv_ 78 77,⟨some 79,.p (.mov (.t 10)),some ⟨78,true⟩⟩,po_ 80 (.pick (.t 78) (.t 79) (.c (.bool false))),mv_ 81 80,⟨some 82,.p (.mov (.t 13)),some ⟨81,true⟩⟩,po_ 83 (.pick (.t 81) (.t 82) (.c (.bool false))),mv_ 84 83,⟨some 85,.p (.mov (.t 19)),some ⟨84,true⟩⟩,po_ 86 (.pick (.t 84) (.t 85) (.c (.bool false))),mv_ 87 86,⟨some 88,.p (.mov (.t 18)),some ⟨87,true⟩⟩,po_ 89 (.pick (.t 87) (.t 88) (.c (.bool false))),mv_ 90 89,⟨some 91,.p (.mov (.t 12)),some ⟨90,true⟩⟩,⟨some 92,.s (.call 12 [.t 91]),some ⟨90,true⟩⟩,⟨some 93,.p (.bin 34 .eql (.t 92) (ci_ 0)),some ⟨90,true⟩⟩,po_ 94 (.pick (.t 90) (.t 93) (.c (.bool false))),mv_ 95 94,⟨some 96,.p (.mov (.t 16)),some ⟨95,true⟩⟩,⟨some 97,.s (.call 12 [.t 96]),some ⟨95,true⟩⟩,⟨some 98,.p (.bin 34 .eql (.t 97) (ci_ 0)),some ⟨95,true⟩⟩,po_ 99 (.pick (.t 95) (.t 98) (.c (.bool false))),mv_ 100 99,⟨some 101,.p (.mov (.t 14)),some ⟨100,true⟩⟩,⟨some 102,.p (.mov (.t 0)),some ⟨100,true⟩⟩,⟨some 103,.p (.lenV (.t 102)),some ⟨100,true⟩⟩,⟨some 104,.p (.bin 3 .eql (.t 101) (.t 103)),some ⟨100,true⟩⟩,po_ 105 (.pick (.t 100) (.t 104) (.c (.bool false))),mv_ 106 105,⟨some 107,.p (.mov (.t 15)),some ⟨106,true⟩⟩,⟨some 108,.p (.mov (.t 1)),some ⟨106,true⟩⟩,⟨some 109,.p (.lenV (.t 108)),some ⟨106,true⟩⟩,⟨some 110,.p (.bin 3 .eql (.t 107) (.t 109)),some ⟨106,true⟩⟩,po_ 111 (.pick (.t 106) (.t 110) (.c (.bool false))),mv_ 112 111,⟨some 113,.p (.mov (.t 8)),some ⟨112,true⟩⟩,⟨some 114,.p (.lenV (.t 113)),some ⟨112,true⟩⟩,⟨some 115,.p (.mov (.t 1)),some ⟨112,true⟩⟩,⟨some 116,.p (.lenV (.t 115)),some ⟨112,true⟩⟩,⟨some 117,.p (.mov (.t 1)),some ⟨112,true⟩⟩,⟨some 118,.p (.lenV (.t 117)),some ⟨112,true⟩⟩,⟨some 119,.p (.bin 3 .quo (.t 118) (ci_ 100)),some ⟨112,true⟩⟩,⟨some 120,.p (.bin 3 .add (.t 116) (.t 119)),some ⟨112,true⟩⟩,⟨some 121,.p (.bin 3 .add (.t 120) (ci_ 20)),some ⟨112,true⟩⟩,⟨some 122,.p (.bin 3 .leq (.t 114) (.t 121)),some ⟨112,true⟩⟩,po_ 123 (.pick (.t 112) (.t 122) (.c (.bool false))),mv_ 4 123] [4])
 (.ret)
def Bys:Btx := .seq (.ops [mv_ 74 17,mv_ 75 1,so_ 76 (.call 9 [.t 74,.t 75]),mv_ 19 76] [0,1,8,9,10,12,13,14,15,16,18,19])
 Byk
def Byc:Btx := .seq (.ops [mv_ 69 0,mv_ 70 8,so_ 71 (.call 11 [.t 69,.t 70]),mv_ 68 71,po_ 72 (.ext 0 (.t 68)),po_ 73 (.ext 1 (.t 68)),mv_ 17 72,mv_ 18 73] [0,1,8,9,10,12,13,14,15,16,17,18])
 Bys
def Bx4:Btx := .seq (.ops [mv_ 63 8,so_ 64 (.call 10 [.t 63]),mv_ 62 64,po_ 65 (.ext 0 (.t 62)),po_ 66 (.ext 1 (.t 62)),po_ 67 (.ext 2 (.t 62)),mv_ 14 65,mv_ 15 66,mv_ 16 67] [0,1,8,9,10,12,13,14,15,16])
 Byc
def Bye:Btx := .seq (.ops [mv_ 59 11,mv_ 60 1,so_ 61 (.call 9 [.t 59,.t 60]),mv_ 13 61] [0,1,8,9,10,12,13])
 Bx4
def Byj:Btx := .seq (.ops [mv_ 54 0,mv_ 55 8,so_ 56 (.call 8 [.t 54,.t 55]),mv_ 53 56,po_ 57 (.ext 0 (.t 53)),po_ 58 (.ext 1 (.t 53)),mv_ 11 57,mv_ 12 58] [0,1,8,9,10,11,12])
 Bye
def Byb:Btx := .seq (.ops [mv_ 50 7,mv_ 51 1,so_ 52 (.call 7 [.t 50,.t 51]),mv_ 10 52] [0,1,8,9,10])
 Byj
def BxQ:Btx := .seq (.ops [mv_ 47 6,mv_ 48 0,so_ 49 (.call 7 [.t 47,.t 48]),mv_ 9 49] [0,1,7,8,9])
 Byb
def BxT:Btx := .seq (.ops [mv_ 44 6,mv_ 45 7,so_ 46 (.call 5 [.t 44,.t 45]),mv_ 8 46] [0,1,6,7,8])
 BxQ
def BxD:Btx := .seq (.ops [mv_ 42 1,so_ 43 (.call 6 [.t 42]),mv_ 7 43] [0,1,6,7])
 BxT
def BvJ:Btx := .seq (.ops [mv_ 40 0,so_ 41 (.call 6 [.t 40]),mv_ 6 41] [0,1,6])
 BxD
def BxG:Btx := .seq (.seq (.ops [mv_ 20 0,po_ 21 (.lenV (.t 20)),po_ 22 (.bin 3 .gtr (.t 21) (ci_ 100000)),mv_ 23 22,⟨some 24,.p (.mov (.t 1)),some ⟨23,false⟩⟩,⟨some 25,.p (.lenV (.t 24)),some ⟨23,false⟩⟩,⟨some 26,.p (.bin 3 .gtr (.t 25) (ci_ 100000)),some ⟨23,false⟩⟩,po_ 27 (.pick (.t 23) (.c (.bool true)) (.t 26))] [0,1,27])
 BvX)
 BvJ
def BzS:Btx := .seq (.ops [po_ 4 (.mov (.c (.bool false)))] [0,1])
 BxG
def Bxn:List VR:=[.tmp 4]
theorem BFg:Tryd.f3.body.bind (trC Tryd.prog Tryd.f3.ntmps)=some (er BzS):=by kernel_rfl
theorem BFr:trR Tryd.prog Tryd.f3.results.toList=some Bxn:=by kernel_rfl
def Bxd:=Btw Bx6.eq_1
def Bvq:=Btw BvX.eq_1
def BBA:=Btw Byk.eq_1
def BBv:=Btw Bys.eq_1
def BBn:=Btw Byc.eq_1
def BBk:=Btw Bx4.eq_1
def BBr:=Btw Bye.eq_1
def BBC:=Btw Byj.eq_1
def BBo:=Btw Byb.eq_1
def BAK:=Btw BxQ.eq_1
def BAu:=Btw BxT.eq_1
def BAL:=Btw BxD.eq_1
def BAJ:=Btw BvJ.eq_1
def Bvc:=Btw BxG.eq_1
def Bwj:=Btw BzS.eq_1
theorem Bwe {K:TV→Prop} {e:Env} {H:List Ob}:res Bxn e H K=res [.tmp 4] e H K:=Btv rfl
def BD5:=BBx 124 Tryd.func3 BFg BFr rfl
end
section
open Go.RowKit
variable [Bt6] [BwJ]
set_option maxRecDepth 100000 in
theorem BPa (base target:List UInt8) (hb0:base.length≤140737488351232) (ht0:target.length≤140737488351232):ByW Tryd.prog 3 [slB base,slB target] (fun x=>x=tb true):=by
 refine BtJ.toPureV (BD5 (by simp) ?_)
 have long:(100000<base.length∨100000<target.length)→vwp Tryd.prog BvX (Thn Tryd.prog BvJ (BG8 Bxn fun x H'=>Bt1 (frz H' x) fun x=>x=tb true)) [(0,slB base),(1,slB target),(27,tb true)] []:=fun h=>by
  by_cases hs:300000<base.length+target.length
  ·simp -dsimp (disch:=first | assumption | omega | (simp only [Btz];try omega)) only [↓BtC,Bty,BtA,BtB,eq_self,Nat.reduceEqDiff,↓reduceIte,reduceCtorEq,↓Bvq,↓Bxd,hs,↓Bwe]
  ·simp -dsimp (disch:=first | assumption | omega | (simp only [Btz];try omega)) only [↓BtC,Bty,BtA,BtB,eq_self,Nat.reduceEqDiff,↓reduceIte,reduceCtorEq,↓Bvq,↓Bxd,hs]
   refine (BPn (by omega) (by omega) h).lends (args':=[slB base,slB target]) (by simp -dsimp (disch:=first | assumption | omega | (simp only [Btz];try omega)) only [BtA,eq_self]) fun r hr => ?_
   subst hr
   simp -dsimp (disch:=first | assumption | omega | (simp only [Btz];try omega)) only [↓BtC,Bty,BtA,BtB,eq_self,↓reduceIte,↓Bwe]
 by_cases h1:100000<base.length
 ·have:=long (.inl h1)
  simp -dsimp (disch:=first | assumption | omega | (simp only [Btz];try omega)) only [↓BtC,Bty,BtA,BtB,eq_self,Nat.reduceEqDiff,↓reduceIte,Nat.reduceAdd,reduceCtorEq,↓Bwj,↓Bvc,h1]
  exact this
 by_cases h2:100000<target.length
 ·have:=long (.inr h2)
  simp -dsimp (disch:=first | assumption | omega | (simp only [Btz];try omega)) only [↓BtC,Bty,BtA,BtB,eq_self,Nat.reduceEqDiff,↓reduceIte,Nat.reduceAdd,reduceCtorEq,↓Bwj,↓Bvc,h1,h2]
  exact this
 simp -dsimp (disch:=first | assumption | omega | (simp only [Btz];try omega)) only [↓BtC,Bty,BtA,BtB,eq_self,Nat.reduceEqDiff,↓reduceIte,Nat.reduceAdd,reduceCtorEq,↓Bwj,↓Bvc,h1,h2,↓Bvq,↓BAJ]
 refine Bzz (BVa base (by omega) ?_)
 simp -dsimp (disch:=first | assumption | omega | (simp only [Btz];try omega)) only [↓BtC,Bty,BtA,BtB,eq_self,Nat.reduceEqDiff,↓reduceIte,reduceCtorEq,↓BAL]
 refine Bzz (BVa target (by omega) ?_)
 simp -dsimp (disch:=first | assumption | omega | (simp only [Btz];try omega)) only [↓BtC,Bty,BtA,BtB,eq_self,Nat.reduceEqDiff,↓reduceIte,reduceCtorEq,↓BAu]
 refine (BMf (base:=base) (target:=target) (by omega) (by omega)).lends (args':=[slB base,slB target]) (by simp -dsimp (disch:=first | assumption | omega | (simp only [Btz];try omega)) only [BtA,BtB,eq_self,↓reduceIte,Nat.reduceAdd]) fun r hr => ?_
 obtain ⟨d,rfl,hG⟩:=hr
 have hdl:=hG.2
 obtain ⟨hA,hS⟩:=hG.apply (by omega) (by omega)
 simp -dsimp (disch:=first | assumption | omega | (simp only [Btz];try omega)) only [↓BtC,Bty,BtA,BtB,eq_self,Nat.reduceEqDiff,↓reduceIte,reduceCtorEq,↓BAK]
 refine Bzz (BJW base (by omega) (by simp) ?_)
 simp -dsimp (disch:=first | assumption | omega | (simp only [Btz];try omega)) only [↓BtC,Bty,BtA,BtB,eq_self,Nat.reduceEqDiff,↓reduceIte,reduceCtorEq,↓BBo]
 refine Bzz (BJW target (by omega) (by simp) ?_)
 simp -dsimp (disch:=first | assumption | omega | (simp only [Btz];try omega)) only [↓BtC,Bty,BtA,BtB,eq_self,Nat.reduceEqDiff,↓reduceIte,reduceCtorEq,↓BBC]
 refine (BP8 base d (by omega) (by omega)).lends (args':=[slB base,slB d]) (by simp -dsimp (disch:=first | assumption | omega | (simp only [Btz];try omega)) only [BtA,eq_self]) fun r hr => ?_
 rw [BxM,hA] at hr
 subst hr
 simp -dsimp (disch:=first | assumption | omega | (simp only [Btz];try omega)) only [↓BtC,Bty,BtA,BtB,eq_self,Nat.reduceEqDiff,↓reduceIte,reduceCtorEq,↓BBr]
 refine (same target target (by omega) (by omega)).calls rfl fun r hr => ?_
 subst hr
 simp -dsimp (disch:=first | assumption | omega | (simp only [Btz];try omega)) only [↓BtC,Bty,BtA,BtB,eq_self,Nat.reduceEqDiff,↓reduceIte,reduceCtorEq,↓BBk]
 refine (BWx d (by omega)).lends (args':=[slB d]) (by simp -dsimp (disch:=first | assumption | omega | (simp only [Btz];try omega)) only [BtA,eq_self]) fun r hr => ?_
 rw [BKL,hS] at hr
 subst hr
 simp -dsimp (disch:=first | assumption | omega | (simp only [Btz];try omega)) only [↓BtC,Bty,BtA,BtB,eq_self,Nat.reduceEqDiff,↓reduceIte,reduceCtorEq,↓BBn]
 refine (BPO base d (by omega) (by omega)).calls rfl fun r hr => ?_
 rw [Buk,hA] at hr
 subst hr
 simp -dsimp (disch:=first | assumption | omega | (simp only [Btz];try omega)) only [↓BtC,Bty,BtA,BtB,eq_self,Nat.reduceEqDiff,↓reduceIte,reduceCtorEq,↓BBv]
 refine (same target target (by omega) (by omega)).calls rfl fun r hr => ?_
 subst hr
 have hle:d.length≤target.length+target.length / 100+20:=by omega
 simp -dsimp (disch:=first | assumption | omega | (simp only [Btz];try omega)) only [↓BtC,Bty,BtA,BtB,eq_self,Nat.reduceEqDiff,↓reduceIte,reduceCtorEq,↓BBA]
 refine BWL.calls rfl fun r hr => ?_
 subst hr
 simp -dsimp (disch:=first | assumption | omega | (simp only [Btz];try omega)) only [↓BtC,Bty,BtA,BtB,eq_self,Nat.reduceEqDiff,↓reduceIte,reduceCtorEq]
 refine BWL.calls rfl fun r hr => ?_
 subst hr
 simp -dsimp (disch:=first | assumption | omega | (simp only [Btz];try omega)) only [↓BtC,Bty,BtA,BtB,eq_self,Nat.reduceEqDiff,↓reduceIte,reduceCtorEq,hle,↓Bwe]
 done
end
end Go.Proofs.YthlbcfmbldcngaaDoor
