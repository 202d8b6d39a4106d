/- What the proof of WireWantsCard stands on (texts merged; names shortened by a program): part 6. -/
import Derived.Test.YtnikbdnebdmmiaaGreatDoorQE
import Derived.Test.YtnikbdnebdmmiaaGreatDoorQD
import Derived.Test.YtnikbdnebdmmiaaGreatDoorProg
import Derived.KernelRfl
import Derived.Lib.Strings
set_option linter.defProp false
set_option linter.unusedSectionVars false
set_option linter.unusedSimpArgs false
set_option linter.unusedVariables false
namespace Go.Proofs.YtnikbdnebdmmiaaGreatDoor
section
open Go.RowKit
variable [AyZ]
section
omit [AyZ]
def ixW (c:UInt8):List UInt8→Option Nat
 | []=>none
 | b::l=>if b=c then some 0 else (ixW c l).map (· + 1)
theorem ASa (c:UInt8):∀ l:List UInt8,Lib.indexByte l c=(match ixW c l with | some i=>(i:Int) | none => -1):=by
 intro l
 induction l with
 | nil=>rfl
 | cons b l ih =>
  rw [Lib.indexByte,ixW]
  by_cases e:b=c
  ·simp [e]
  ·rw [if_neg (by simpa using e),if_neg e,ih]
   cases hc:ixW c l with
   | none=>simp
   | some i =>
    have:¬ ((i:Int) == -1)=true:=by simp
    simp only [Option.map_some]
    rw [if_neg this]; rfl
theorem A2P:∀ (l w:List UInt8),(∀ i,ixW 32 l=some i→i<l.length∧spl w l=(w++l.take i)::spl [] (l.drop (i+1))∧l.count 32=(l.drop (i+1)).count 32+1)∧(ixW 32 l=none→spl w l=[w++l]∧l.count 32=0)
 | [],w=>⟨fun i h=>(by cases h),fun _=>⟨(by simp [spl]),rfl⟩⟩
 | b::l,w=>by
  by_cases e:b=32
  ·subst e
   refine ⟨fun i h => ?_,fun h => ?_⟩
   ·rw [ixW,if_pos rfl] at h
    cases h
    exact ⟨by simp,by simp [spl],by simp⟩
   ·rw [ixW,if_pos rfl] at h; cases h
  ·obtain ⟨h1,h2⟩:=A2P l (w++[b])
   refine ⟨fun i h => ?_,fun h => ?_⟩
   ·rw [ixW,if_neg e] at h
    obtain ⟨j,hj,rfl⟩:=Option.map_eq_some_iff.1 h
    obtain ⟨a1,a2,a3⟩:=h1 j hj
    refine ⟨by simp; omega,?_,?_⟩
    ·rw [spl,if_neg e,a2]; simp
    ·rw [List.count_cons_of_ne (by simpa using e),a3]; rfl
   ·rw [ixW,if_neg e] at h
    obtain ⟨a1,a2⟩:=h2 (Option.map_eq_none_iff.1 h)
    refine ⟨by rw [spl,if_neg e,a1]; simp,by rw [List.count_cons_of_ne (by simpa using e),a2]⟩
end
theorem Azk.ofSameW {f:FuncId} {args:List Value} {r:Value} (h:∀ (F:Nat→Prop) w,ADv F w→Calls Tryz.prog f args.toArray w fun e w'=>e = .returned r∧w'=w):Azk Tryz.prog f (args.map .val) (fun x=>x = .val r):=by
 intro β F w vs hF hv
 have hvs:vs=args:=by
  clear h hF
  induction args generalizing vs with
  | nil=>rw [List.map_nil,Azd.nil] at hv; exact hv
  | cons a args ih =>
   rw [List.map_cons] at hv
   obtain ⟨v,us,rfl,h1,h2⟩:=Azd.cons.1 hv
   have:=Rep.val.1 (Or.inl h1:Rep _ _ _ _)
   rw [this,ih us h2]
 subst hvs
 refine (h F w hF.2).mono ?_
 rintro e w' ⟨rfl,rfl⟩
 exact ⟨_,_,F,rfl,rfl,Rep.of_val,⟨rfl,rfl,rfl,Nat.le_refl _,fun _ _=>rfl,fun _ h=>h,fun _ _ h=>h,hF.1⟩⟩
theorem AVT (l:List UInt8):(str l).data.toList=l:=by simp [str]
theorem AZh (s:List UInt8) (c:UInt8):Azk Tryz.prog 99 [ts s,ts [c]] (fun x=>x=i64 (Lib.indexByte s c)):=by
 have:=Azk.ofSameW (f:=99) (args:=[.string (str s),.string (str [c])]) (r := .int .i64 (Lib.indexByte s c)) fun F w _=>by
  have:=Tryz.strings_Index_one (str s) c w
  rw [AVT] at this; exact this
 exact this
theorem AXz (s:List UInt8) (c:UInt8):Azk Tryz.prog 121 [ts s,ts [c]] (fun x=>x=i64 ((s.count c:Nat):Int)):=by
 have:=Azk.ofSameW (f:=121) (args:=[.string (str s),.string (str [c])]) (r := .int .i64 ((s.count c:Nat):Int)) fun F w _=>by
  have:=Tryz.strings_Count_one (str s) c w
  rw [AVT] at this; exact this
 exact this
theorem AYT (s:List UInt8) (hs:s.length≤1000000):Azk Tryz.prog 79 [ts s,ts [10]] (fun x=>x=ts (Lib.trimSuffix s [10])):=by
 have:=Azk.ofSameW (f:=79) (args:=[.string (str s),.string (str [10])]) (r := .string (str (Lib.trimSuffix s [10]))) fun F w _=>by
  have:=Tryz.strings_TrimSuffix (str s) (str [10]) w (by show s.toArray.size≤_; simp; omega)
  rw [AVT,AVT] at this; exact this
 exact this
theorem AXs:∀ l:List (List UInt8),ADW (l.map ts)=true
 | []=>rfl
 | x::l=>by rw [List.map_cons,ADW,AXs l]; rfl
theorem AXU (s:List UInt8) (hs:s.length≤1000000):AEp Tryz.prog 104 [ts s,ts [32],i64 ((0:Nat):Int),i64 (-1)] (fun r=>r = .sl 1 ((spl [] s).map ts)):=by
 refine AyI.toFreshV (AKW (by simp) ?_)
 have hcl:s.count 32≤s.length:=List.count_le_length
 simp -dsimp (disch:=first | assumption | omega | (simp only [AyA];try omega)) only [↓AyF,AyB,AyE,AyD,eq_self,Nat.reduceEqDiff,↓reduceIte,Nat.reduceAdd,reduceCtorEq,↓AJ3,↓AF5,↓AFY,↓AGn]
 refine (AXz s 32).calls rfl fun r hr => ?_
 subst hr
 simp -dsimp (disch:=first | assumption | omega | (simp only [AyA];try omega)) only [↓AyF,AyB,AyE,AyD,eq_self,Nat.reduceEqDiff,↓reduceIte,reduceCtorEq,Nat.reduceLeDiff,ADh,↓AFZ,↓AGu,↓AGN,↓AGz,↓AGv]
 refine AAW (fun q e H=>∃ (i:Nat) (ws:List (List UInt8)) (rest:List UInt8),q=s.count 32 - i∧i≤s.count 32∧ws.length=i∧rest.length≤s.length∧rest.count 32=s.count 32 - i∧spl [] s=ws++spl [] rest∧H=[.obj 0 (.arr (s.count 32+1) 1 (ws.map ts++List.replicate (s.count 32+1 - i) (ts [])))]∧e=[(0,ts rest),(1,ts [32]),(2,i64 ((0:Nat):Int)),(3,i64 ((s.count 32:Nat):Int)),(9,.os 1 0 0 [] 0 (s.count 32+1) (s.count 32+1)),(10,i64 (i:Int))]) (s.count 32) ?_ ?_
 ·refine ⟨0,[],s,rfl,Nat.zero_le _,rfl,Nat.le_refl _,rfl,rfl,rfl,by simp [forget,get]⟩
 rintro q e H ⟨i,ws,rest,rfl,hi,hwl,hrl,hrc,hsp,rfl,rfl⟩
 obtain ⟨x1,x2⟩:=A2P rest []
 have hix:=ASa 32 rest
 have hwl':(ws.map ts).length=i:=by rw [List.length_map]; exact hwl
 obtain ⟨n,hn⟩:∃ n,s.count 32+1 - i=n+1:=⟨s.count 32 - i,by omega⟩
 have hget:(ws.map ts++List.replicate (s.count 32+1 - i) (ts []))[i]?=some (ts []):=by
  rw [List.getElem?_append_right (by omega),hwl',Nat.sub_self,hn]; rfl
 have hset:∀ c,(ws.map ts++List.replicate (s.count 32+1 - i) (ts [])).set i c=ws.map ts++(c::List.replicate n (ts [])):=fun c=>by
  rw [List.set_append_right _ _ (by omega),hwl',Nat.sub_self,hn]; rfl
 have hwd:AyK (ts [])=1:=rfl
 by_cases hil:i<s.count 32
 ·simp -dsimp (disch:=first | assumption | omega | (simp only [AyA];try omega)) only [↓AyF,AyB,AyE,AyD,eq_self,Nat.reduceEqDiff,↓reduceIte,reduceCtorEq,↓ABV,↓AGJ]
  refine (AZh rest 32).calls rfl fun r hr => ?_
  subst hr
  rw [hix]
  cases hm:ixW 32 rest with
  | none=>have:=(x2 hm).2; omega
  | some m =>
   obtain ⟨a1,a2,a3⟩:=x1 m hm
   simp only
   simp -dsimp (disch:=first | assumption | omega | (simp only [AyA];try omega)) only [↓AyF,AyB,AyE,AyD,eq_self,Nat.reduceEqDiff,↓reduceIte,reduceCtorEq,ADh,hget,hset,hwd,Nat.add_zero,↓AGB,↓AGA]
   refine AyP (s.count 32 - (i+1)) (by omega) (by simp) ⟨i+1,ws++[rest.take m],rest.drop (m+1),rfl,by omega,by simp; omega,by simp; omega,by omega,by rw [hsp,a2]; simp,?_,by simp [forget,get]⟩
   rw [show s.count 32+1 - (i+1)=n by omega,List.map_append,List.append_assoc]; rfl
 ·have hi2:i=s.count 32:=by omega
  simp -dsimp (disch:=first | assumption | omega | (simp only [AyA];try omega)) only [↓AyF,AyB,AyE,AyD,eq_self,Nat.reduceEqDiff,↓reduceIte,reduceCtorEq,Nat.reduceLeDiff,hget,hset,hwd,↓ABV,↓AGH,↓AJ6]
  have hnone:ixW 32 rest=none:=by
   cases hm:ixW 32 rest with
   | none=>rfl
   | some m=>have:=(x1 m hm).2.2; omega
  have hfin:spl [] s=ws++[rest]:=by rw [hsp,(x2 hnone).1]; rfl
  have htk:List.take (i+1) (ws.map ts++ts rest::List.replicate n (ts []))=(ws++[rest]).map ts:=by
   rw [List.map_append,show ws.map ts++ts rest::List.replicate n (ts [])=(ws.map ts++[ts rest])++List.replicate n (ts []) by simp,List.take_left' (by simp; omega)]; rfl
  rw [htk,hfin,if_pos (AXs _)]
  exact rfl
theorem A2L (s:List UInt8) (hs:s.length≤1000000):Azk Tryz.prog 78 [ts s,ts [32]] (fun r=>r = .sl 1 ((spl [] s).map ts)):=by
 refine AyI.toPureV (AOr (by simp) ?_)
 simp -dsimp (disch:=first | assumption | omega | (simp only [AyA];try omega)) only [↓AyF,AyB,AyE,AyD,eq_self,Nat.reduceEqDiff,↓reduceIte,Nat.reduceAdd,reduceCtorEq,↓AH7]
 refine (AXU s hs).pure.calls rfl fun r hr => ?_
 subst hr
 simp -dsimp (disch:=first | assumption | omega | (simp only [AyA];try omega)) only [↓AyF,AyB,AyE,AyD,eq_self,↓reduceIte,↓AH7]
end
section
open Go.RowKit
variable [AyZ] [AyO] [AyR]
theorem ATr (s:List UInt8):Lib.trimSuffix s [10]=ABe s:=by
 unfold Lib.trimSuffix ABe
 by_cases h:s.getLast?=some 10
 ·obtain ⟨l,rfl⟩:∃ l,s=l++[10]:=by
   rcases List.eq_nil_or_concat s with rfl | ⟨l,x,hx⟩
   ·cases h
   ·rw [List.concat_eq_append] at hx
    subst hx
    simp at h
    subst h
    exact ⟨l,rfl⟩
  simp [Lib.hasSuffix]
 ·rw [if_neg h,if_neg]
  intro hs
  apply h
  unfold Lib.hasSuffix at hs
  have:=List.isSuffixOf_iff_suffix.1 hs
  obtain ⟨t,rfl⟩:=this
  simp
abbrev ACU (x:List UInt8):TV := .sl 1 ((ACI x).map ts)
theorem A4A:(∀ y:TV,y∈([]:List TV)→AUU y)=True:=eq_true (fun y h=>by cases h)
theorem AWx:(if (none:Option Addr).isNone=true then some ([]:List TV) else none)=some []:=by simp
def A5L (b:List UInt8) (r:TV):Prop:=(∀ ls,AyV ls b→r = .tup [.sl 1 (ls.map ACU),.val .nilIface])∧((∀ ls,¬ AyV ls b)→r = .tup [AFl,eno 110])
theorem A7G (b:List UInt8) (hb:b.length≤1000000):Azk Tryz.prog 64 [slB b] (A5L b):=by
 refine AyI.toPureV (AR2 (by simp) ?_)
 simp -dsimp (disch:=first | assumption | omega | (simp only [AyA];try omega)) only [↓AyF,AyB,AyE,AyD,eq_self,↓reduceIte,reduceCtorEq,↓AQt,↓AMJ]
 refine (A7f b hb).calls rfl fun r hr => ?_
 by_cases h:∃ ls,AyV ls b
 case neg =>
  have hno:∀ ls,¬ AyV ls b:=fun ls k=>h ⟨ls,k⟩
  rw [hr.2 hno]
  simp -dsimp (disch:=first | assumption | omega | (simp only [AyA];try omega)) only [↓AyF,AyB,AyE,AyD,eq_self,Nat.reduceEqDiff,↓reduceIte,↓AF2,↓AKd]
  exact ⟨fun ls k=>absurd k (hno ls),fun _=>rfl⟩
 obtain ⟨ls,hls⟩:=h
 rw [hr.1 ls hls]
 clear hr
 have hlen:ls.length≤1000000:=by
  have h1:∀ l:List (List UInt8),l.length≤(l.flatMap Azb).length:=fun l=>by
   induction l with
   | nil=>simp
   | cons x l ih=>rw [List.flatMap_cons,List.length_append,AA9,List.length_cons]; omega
  have:=h1 ls
  rw [hls.2] at this
  omega
 have fin:A5L b (.tup [.sl 1 (ls.map ACU),.val .nilIface]):=⟨fun ms hm=>by rw [AIg hm hls],fun k=>absurd hls (k ls)⟩
 simp -dsimp (disch:=first | assumption | omega | (simp only [AyA];try omega)) only [↓AyF,AyB,AyE,AyD,eq_self,Nat.reduceEqDiff,↓reduceIte,↓AF2,↓AMz,↓AM5,↓AMu]
 refine AAW (fun q e H=>∃ (i k v cp:Nat),q=ls.length - i∧i≤ls.length∧H[k]?=some (.obj v (.arr i 1 ((ls.take i).map ACU)))∧e=[(6,.os 1 k v [] 0 i cp),(17,.sl 1 (ls.map AD0)),(18,i64 (ls.length:Int)),(19,i64 (i:Int))]) ls.length ?_ ?_
 ·exact ⟨0,0,0,0,rfl,Nat.zero_le _,rfl,by simp [forget,get]⟩
 rintro q e H ⟨i,k,v,cp,rfl,hi,hk,rfl⟩
 have hkl:=(List.getElem?_eq_some_iff.1 hk).1
 have hwl:((ls.take i).map ACU).length=i:=by rw [List.length_map,List.length_take,Nat.min_eq_left hi]
 have hwt:((ls.take i).map ACU).take i=(ls.take i).map ACU:=List.take_of_length_le (by omega)
 by_cases hil:i<ls.length
 case neg =>
  have hi2:i=ls.length:=by omega
  have htt:ls.take i=ls:=List.take_of_length_le (by omega)
  rw [htt] at hwl hwt hk
  simp -dsimp (disch:=first | assumption | omega | (simp only [AyA];try omega)) only [↓AyF,AyB,AyE,AyD,eq_self,Nat.reduceEqDiff,↓reduceIte,hk,hwl,↓ACC,↓ACs,↓AMB,↓AKd]
  exact fin
 have hg:ls[i]?=some ls[i]:=List.getElem?_eq_getElem hil
 have hgl:(ls.map AD0)[i]?=some (AD0 ls[i]):=by rw [List.getElem?_map,hg]; rfl
 have hx1:=hls.1 _ (List.mem_of_getElem? hg)
 have hsn:(ls.take (i+1)).map ACU=(ls.take i).map ACU++[ACU ls[i]]:=by rw [List.take_succ_eq_append_getElem hil,List.map_append]; rfl
 generalize ls[i]=x at *
 have hA:∀ T:List Ob,(H++T)[k]?=some (.obj v (.arr i 1 ((ls.take i).map ACU))):=fun T=>by rw [List.getElem?_append_left hkl]; exact hk
 have h11:∀ y z:TV,List.take 1 ((List.replicate 1 z).set 0 y)=[y]:=fun y z=>rfl
 have htl:=AO7 x
 by_cases hx:x=[]
 ·subst hx
  have hl0:AD0 []=AFl:=rfl
  rw [hl0] at hgl
  simp -dsimp (disch:=first | assumption | omega | (simp only [AyA];try omega)) only [↓AyF,AyB,AyE,AyD,eq_self,Nat.reduceEqDiff,↓reduceIte,hgl,AWx,A4A,↓ACC,↓ACs,↓AF8]
  refine (AYT [] (by omega)).calls rfl fun r hr => ?_
  subst hr
  rw [ATr]
  simp -dsimp (disch:=first | assumption | omega | (simp only [AyA];try omega)) only [↓AyF,AyB,AyE,AyD,eq_self,↓reduceIte]
  refine (A2L (ABe []) (by omega)).calls rfl fun r hr => ?_
  subst hr
  simp -dsimp (disch:=first | assumption | omega | (simp only [AyA];try omega)) only [↓AyF,AyB,AyE,AyD,eq_self,Nat.reduceEqDiff,↓reduceIte,Nat.reduceLeDiff,hA,hwl,h11]
  refine AyP (ls.length - (i+1)) (by omega) (by simp) ⟨i+1,k,v+1,i+1,rfl,by omega,?_,by simp [forget,get]⟩
  rw [List.getElem?_append_left (by simp; omega),List.getElem?_set_self hkl,hsn]; rfl
 ·have hl0:AD0 x=slB x:=if_neg hx
  rw [hl0] at hgl
  simp -dsimp (disch:=first | assumption | omega | (simp only [AyA];try omega)) only [↓AyF,AyB,AyE,AyD,eq_self,Nat.reduceEqDiff,↓reduceIte,hgl,↓ACC,↓ACs,↓AF8]
  refine (AYT x (by omega)).calls rfl fun r hr => ?_
  subst hr
  rw [ATr]
  simp -dsimp (disch:=first | assumption | omega | (simp only [AyA];try omega)) only [↓AyF,AyB,AyE,AyD,eq_self,↓reduceIte]
  refine (A2L (ABe x) (by omega)).calls rfl fun r hr => ?_
  subst hr
  simp -dsimp (disch:=first | assumption | omega | (simp only [AyA];try omega)) only [↓AyF,AyB,AyE,AyD,eq_self,Nat.reduceEqDiff,↓reduceIte,Nat.reduceLeDiff,hA,hwl,h11]
  refine AyP (ls.length - (i+1)) (by omega) (by simp) ⟨i+1,k,v+1,i+1,rfl,by omega,?_,by simp [forget,get]⟩
  rw [List.getElem?_append_left (by simp; omega),List.getElem?_set_self hkl,hsn]; rfl
end
section
open Go.RowKit
variable [AyZ]
theorem AU6 {c:Ctx} {w:World}:∀ {ws:List (List UInt8)} {vs:List Value},AyH c w (ws.map ts) vs→vs=ws.map fun x=>Value.string (str x)
 | [],vs,h=>by rw [List.map_nil,AyH] at h; exact h
 | x::ws,vs,h=>by
  rw [List.map_cons,AyH] at h
  obtain ⟨a,b,rfl,h1,h2⟩:=h
  rw [AyG] at h1
  rw [h1.1,AU6 h2]; rfl
theorem A9D (ws:List (List UInt8)) (hne:ws≠[]) (hlen:(Lib.join ws [32]).length≤4000000) (hn:ws.length≤1000000):Azk Tryz.prog 55 [.sl 1 (ws.map ts),ts [32]] (fun r=>r=ts (Lib.join ws [32])):=by
 intro β F w vs hF hv
 obtain ⟨v1,us,rfl,h1,hv⟩:=Azd.cons.1 hv
 obtain ⟨v2,us,rfl,h2,hv⟩:=Azd.cons.1 hv
 rw [Azd.nil] at hv; subst hv
 obtain rfl:=Rep.val.1 (Or.inl h2:Rep _ _ _ _)
 obtain ⟨_,h | ⟨b,off,cap,xs,rfl,hcap,hcap2,hFb,hx,hcell⟩⟩:=Rep.sl (Or.inl h1:Rep _ _ _ _)
 ·exact absurd (List.map_eq_nil_iff.1 h.1) hne
 have hxs:=AU6 hx
 subst hxs
 have hmap:(ws.map str).map (·.data.toList)=ws:=by
  rw [List.map_map]
  conv=>rhs; rw [←List.map_id ws]
  exact List.map_congr_left fun x _=>AVT x
 have hlen2:(ws.map ts).length=(ws.map str).length:=by simp
 have hj:Lib.join ((ws.map str).map (·.data.toList)) (str [32]).data.toList=Lib.join ws [32]:=by rw [hmap,AVT]
 rw [hlen2] at hcap ⊢
 have hc:=Tryz.strings_Join b off cap (ws.map str) (str [32]) w (fun j x hjx=>by
  rw [List.getElem?_map] at hjx
  obtain ⟨y,hy,rfl⟩:=Option.map_eq_some_iff.1 hjx
  exact hcell j _ (by rw [List.getElem?_map,hy]; rfl)) (hF.1 b hFb) (by simp; omega) hcap (by rw [hj]; omega)
 rw [hj] at hc
 refine hc.mono ?_
 rintro e w' ⟨rfl,hb⟩
 exact ⟨_,_,F,rfl,rfl,Rep.of_val,⟨hb.os,hb.tape,hb.output,hb.size,hb.block,fun _ h=>h,fun _ _ h=>h,fun b hb'=>Nat.lt_of_lt_of_le (hF.1 b hb') hb.size⟩⟩
end
section
open Go.RowKit
variable [AyZ]
theorem ATy {α:Type} {l:List α} {n:Nat} (h:l.length≤n):l.take n=l:=List.take_of_length_le h
def AQe (H:List Ob) (r:TV) (l:List UInt8):Option Nat→Prop
 | none=>r=AFl∧l=[]
 | some j=>∃ v,r = .os 1 j v [] 0 l.length l.length∧H[j]?=some (.obj v (.arr l.length 1 (l.map by8)))
theorem AQe.tup {H:List Ob} {r:TV} {l:List UInt8} {J:Option Nat} (h:AQe H r l J):AzB r=false:=by
 cases J with
 | none=>obtain ⟨rfl,_⟩:=h; rfl
 | some j=>obtain ⟨v,rfl,_⟩:=h; rfl
def A8W (J:Option Nat) (H H':List Ob):Prop:=H.length≤H'.length∧∀ i,i<H.length→J≠some i→H'[i]?=H[i]?
theorem bl4:bl (str [48,48,48,48])=ABT:=ADh
theorem AVg {m:List UInt8} {J:Option Nat} {H:List Ob} {j v n:Nat} {cs:List TV} (hJ:J=some j) (hj:j<H.length) (hn:n=m.length) (hcs:cs=m.map by8) :
  ∃ j',AQe (H.set j (.obj v (.arr n 1 cs))) (.os 1 j v [] 0 n n) m (some j')∧A8W J H (H.set j (.obj v (.arr n 1 cs)))∧(J=some j'∨H.length≤j'):=by
 subst hn hcs hJ
 exact ⟨j,⟨v,rfl,by simp [hj]⟩,⟨by simp,fun i hi hne=>List.getElem?_set_ne (fun e=>hne (by rw [e]))⟩,.inl rfl⟩
theorem AUY {m:List UInt8} {H:List Ob} {v n:Nat} {cs:List TV} (hn:n=m.length) (hcs:cs=m.map by8) :
  ∃ j',AQe (H++[.obj v (.arr n 1 cs)]) (.os 1 H.length v [] 0 n n) m (some j')∧A8W none H (H++[.obj v (.arr n 1 cs)])∧(False∨H.length≤j'):=by
 subst hn hcs
 exact ⟨H.length,⟨v,rfl,by simp⟩,⟨by simp,fun i hi _=>List.getElem?_append_left hi⟩,.inr (Nat.le_refl _)⟩
set_option maxHeartbeats 1000000 in
theorem A8F {o:TV} {l line:List UInt8} {J:Option Nat} {H:List Ob} (h:AQe H o l J) (hl:l.length≤100000000000) (hn:line.length≤4000000) :
  AyI Tryz.prog 54 [o,slB line] H (fun x H'=>∃ j,AQe H' x (l++Azb line) (some j)∧A8W J H H'∧(J=some j∨H.length≤j)):=by
 refine AE6 (by simp) ?_
 have h4:(AMs (line.length+4)).length=4:=rfl
 have z4:ABT.length=4:=rfl
 by_cases h0:line.length=0
 ·have hP:Azb line=ABT:=by unfold Azb; rw [if_pos h0]
  rw [hP]
  cases J with
  | none =>
   obtain ⟨rfl,rfl⟩:=h
   simp -dsimp (disch:=first | assumption | omega | (simp only [AyA];try omega)) only [↓AyF,AyB,AyE,AyD,eq_self,Nat.reduceEqDiff,↓reduceIte,Nat.reduceAdd,reduceCtorEq,Nat.reduceLeDiff,↓AyW,bl4,z4]
   exact AUY rfl rfl
  | some j =>
   obtain ⟨v,rfl,hj⟩:=h
   have hjl:j<H.length:=(List.getElem?_eq_some_iff.1 hj).1
   simp -dsimp (disch:=first | assumption | omega | (simp only [AyA];try omega)) only [↓AyF,AyB,AyE,AyD,eq_self,Nat.reduceEqDiff,↓reduceIte,Nat.reduceAdd,reduceCtorEq,Nat.reduceLeDiff,↓AyW,bl4,z4,hj]
   exact AVg rfl hjl (by rw [List.length_append,z4]) (by rw [List.map_append])
 ·have hP:Azb line=AMs (line.length+4)++line:=by unfold Azb; rw [if_neg h0]
  rw [hP]
  cases J with
  | none =>
   obtain ⟨rfl,rfl⟩:=h
   simp -dsimp (disch:=first | assumption | omega | (simp only [AyA];try omega)) only [↓AyF,AyB,AyE,AyD,eq_self,Nat.reduceEqDiff,↓reduceIte,Nat.reduceAdd,reduceCtorEq,↓AyW]
   refine (ALZ (line.length+4) (by omega)).calls rfl ?_
   rintro _ rfl
   simp -dsimp (disch:=first | assumption | omega | (simp only [AyA];try omega)) only [↓AyF,AyB,AyE,AyD,eq_self,Nat.reduceEqDiff,↓reduceIte,Nat.reduceAdd,reduceCtorEq,Nat.reduceLeDiff,↓AyW,ADh,h4]
   exact AUY (by rw [List.length_append,h4]) (by rw [List.map_append])
  | some j =>
   obtain ⟨v,rfl,hj⟩:=h
   have hjl:j<H.length:=(List.getElem?_eq_some_iff.1 hj).1
   simp -dsimp (disch:=first | assumption | omega | (simp only [AyA];try omega)) only [↓AyF,AyB,AyE,AyD,eq_self,Nat.reduceEqDiff,↓reduceIte,Nat.reduceAdd,reduceCtorEq,↓AyW]
   refine (ALZ (line.length+4) (by omega)).calls rfl ?_
   rintro _ rfl
   simp -dsimp (disch:=first | assumption | omega | (simp only [AyA];try omega)) only [↓AyF,AyB,AyE,AyD,eq_self,Nat.reduceEqDiff,↓reduceIte,reduceCtorEq,Nat.reduceLeDiff,↓AyW,ADh,h4,hj]
   refine AVg rfl hjl (by rw [List.length_append,List.length_append,h4]; omega) ?_
   rw [ATy (by simp [h4]),List.map_append,List.map_append,List.append_assoc]
set_option maxHeartbeats 1000000 in
theorem A16 {o:TV} {l line:List UInt8} {J:Option Nat} {H:List Ob} {id2 ver2:Nat} (h:AQe H o l J) (h2:H[id2]?=some (.obj ver2 (.arr line.length 1 (line.map by8)))) (hne:J≠some id2) (hl:l.length≤100000000000) (hn:line.length≤4000000) :
  AyI Tryz.prog 54 [o,.os 1 id2 ver2 [] 0 line.length line.length] H (fun x H'=>∃ j,AQe H' x (l++Azb line) (some j)∧A8W J H H'∧(J=some j∨H.length≤j)):=by
 refine AE6 (by simp) ?_
 have hl2:id2<H.length:=(List.getElem?_eq_some_iff.1 h2).1
 have hlt:(line.map by8).take line.length=line.map by8:=List.take_of_length_le (by simp)
 have h2a:∀ T:List Ob,(H++T)[id2]?=some (.obj ver2 (.arr line.length 1 (line.map by8))):=fun T=>by rw [List.getElem?_append_left hl2]; exact h2
 have h4:(AMs (line.length+4)).length=4:=rfl
 have z4:ABT.length=4:=rfl
 by_cases h0:line.length=0
 ·have hP:Azb line=ABT:=by unfold Azb; rw [if_pos h0]
  rw [hP]
  cases J with
  | none =>
   obtain ⟨rfl,rfl⟩:=h
   simp -dsimp (disch:=first | assumption | omega | (simp only [AyA];try omega)) only [↓AyF,AyB,AyE,AyD,eq_self,Nat.reduceEqDiff,↓reduceIte,Nat.reduceAdd,reduceCtorEq,Nat.reduceLeDiff,↓AyW,bl4,z4]
   exact AUY rfl rfl
  | some j =>
   obtain ⟨v,rfl,hj⟩:=h
   have hjl:j<H.length:=(List.getElem?_eq_some_iff.1 hj).1
   have h2s:∀ o:Ob,(H.set j o)[id2]?=some (.obj ver2 (.arr line.length 1 (line.map by8))):=fun o=>by rw [List.getElem?_set_ne (fun e=>hne (by rw [e]))]; exact h2
   simp -dsimp (disch:=first | assumption | omega | (simp only [AyA];try omega)) only [↓AyF,AyB,AyE,AyD,eq_self,Nat.reduceEqDiff,↓reduceIte,Nat.reduceAdd,reduceCtorEq,Nat.reduceLeDiff,↓AyW,bl4,z4,hj]
   exact AVg rfl hjl (by rw [List.length_append,z4]) (by rw [List.map_append])
 ·have hP:Azb line=AMs (line.length+4)++line:=by unfold Azb; rw [if_neg h0]
  rw [hP]
  cases J with
  | none =>
   obtain ⟨rfl,rfl⟩:=h
   simp -dsimp (disch:=first | assumption | omega | (simp only [AyA];try omega)) only [↓AyF,AyB,AyE,AyD,eq_self,Nat.reduceEqDiff,↓reduceIte,Nat.reduceAdd,reduceCtorEq,↓AyW]
   refine (ALZ (line.length+4) (by omega)).calls rfl ?_
   rintro _ rfl
   simp -dsimp (disch:=first | assumption | omega | (simp only [AyA];try omega)) only [↓AyF,AyB,AyE,AyD,eq_self,Nat.reduceEqDiff,↓reduceIte,Nat.reduceAdd,reduceCtorEq,Nat.reduceLeDiff,↓AyW,ADh,h4,h2a,hlt]
   exact AUY (by rw [List.length_append,h4]) (by rw [List.map_append])
  | some j =>
   obtain ⟨v,rfl,hj⟩:=h
   have hjl:j<H.length:=(List.getElem?_eq_some_iff.1 hj).1
   have h2s:∀ o:Ob,(H.set j o)[id2]?=some (.obj ver2 (.arr line.length 1 (line.map by8))):=fun o=>by rw [List.getElem?_set_ne (fun e=>hne (by rw [e]))]; exact h2
   simp -dsimp (disch:=first | assumption | omega | (simp only [AyA];try omega)) only [↓AyF,AyB,AyE,AyD,eq_self,Nat.reduceEqDiff,↓reduceIte,Nat.reduceAdd,reduceCtorEq,↓AyW]
   refine (ALZ (line.length+4) (by omega)).calls rfl ?_
   rintro _ rfl
   simp -dsimp (disch:=first | assumption | omega | (simp only [AyA];try omega)) only [↓AyF,AyB,AyE,AyD,eq_self,Nat.reduceEqDiff,↓reduceIte,reduceCtorEq,Nat.reduceLeDiff,↓AyW,ADh,h4,hj,h2s,hlt]
   refine AVg rfl hjl (by rw [List.length_append,List.length_append,h4]; omega) ?_
   rw [ATy (by simp [h4]),List.map_append,List.map_append,List.append_assoc]
theorem A7J {H:List Ob} {N:Nat} {o:TV} {bad ok:Bool} {K:TV→List Ob→Prop} (hT:H[N]?=some (.obj 0 (.agg [o,tb bad]))) (ho:AyK o=1) (hk:K (.tup []) (H.set N (.obj 0 (.agg [o,tb (bad || !ok)])))) :
  AyI Tryz.prog 27 [.op N 0 [],tb ok] H K:=by
 refine ANr (by simp) ?_
 cases bad with
 | true =>
  simp -dsimp (disch:=first | assumption | omega | (simp only [AyA];try omega)) only [↓AyF,AyB,AyE,AyD,eq_self,Nat.reduceEqDiff,↓reduceIte,Nat.reduceAdd,reduceCtorEq,hT,ho,↓AHm]
  exact hk
 | false =>
  simp -dsimp (disch:=first | assumption | omega | (simp only [AyA];try omega)) only [↓AyF,AyB,AyE,AyD,eq_self,Nat.reduceEqDiff,↓reduceIte,Nat.reduceAdd,reduceCtorEq,hT,ho,↓AHm]
  exact hk
theorem Bb7 {H:List Ob} {N:Nat} {o:TV} {l:List UInt8} {bad:Bool} {J:Option Nat} {id ver cp:Nat} {ws:List (List UInt8)} (hT:H[N]?=some (.obj 0 (.agg [o,tb bad]))) (hrow:AQe H o l J) (hws:H[id]?=some (.obj ver (.arr ws.length 1 (ws.map ts)))) (hne:ws≠[]) (hwn:ws.length≤1000000) (hj:(Lib.join ws [32]).length≤3000000) (hl:l.length≤100000000000) {K:TV→List Ob→Prop}
  (hk:∀ H' o' j,AQe H' o' (l++Azb (Lib.join ws [32]++[10])) (some j)→H'[N]?=some (.obj 0 (.agg [o',tb bad]))→(∀ i,i<H.length→i≠N→J≠some i→H'[i]?=H[i]?)→H.length≤H'.length→(J=some j∨H.length≤j)→K (.tup []) H') :
  AyI Tryz.prog 29 [.op N 0 [],.os 1 id ver [] 0 ws.length cp] H K:=by
 refine AOl (by simp) ?_
 have hwt:(ws.map ts).take ws.length=ws.map ts:=List.take_of_length_le (by simp)
 have htup:=hrow.tup
 have how:AyK o=1∧AKX o=false:=by
  cases J with
  | none=>obtain ⟨rfl,_⟩:=hrow; exact ⟨rfl,rfl⟩
  | some j=>obtain ⟨v,rfl,_⟩:=hrow; exact ⟨rfl,rfl⟩
 obtain ⟨o1,o2⟩:=how
 have hjl:(Lib.join ws [32]++[(10:UInt8)]).length≤4000000:=by simp; omega
 have hcat:AAD 9 BinOp.add (.string (str (Lib.join ws [32]))) (.string (str [10]))=some (.string (str (Lib.join ws [32]++[10]))):=AWu (by simp; omega)
 simp -dsimp (disch:=first | assumption | omega | (simp only [AyA];try omega)) only [↓AyF,AyB,AyE,AyD,eq_self,Nat.reduceEqDiff,Nat.reduceMod,↓reduceIte,Nat.reduceAdd,reduceCtorEq,hT,o1,o2,↓APy]
 refine AyI.callsP ((A9D ws hne (by omega) hwn).lends (args':=[.sl 1 (ws.map ts),ts [32]]) (by simp -dsimp (disch:=first | assumption | omega | (simp only [AyA];try omega)) only [AyE,AyD,eq_self,↓reduceIte,hws,hwt]) fun r hr=>⟨by rw [hr]; rfl,?_,?_⟩)
 case refine_2=>exact AYc (id:=N) (ver:=0) (p:=[(0,0)]) (by simp [get]) rfl ASi
 subst hr
 generalize Lib.join ws [32]++[(10:UInt8)]=x at *
 have hx9:x.length≤9223372036854775807:=by omega
 simp -dsimp (disch:=first | assumption | omega | (simp only [AyA];try omega)) only [↓AyF,AyB,AyE,AyD,eq_self,Nat.reduceEqDiff,↓reduceIte,reduceCtorEq,htup,hcat,ADh]
 have hNl:N<H.length:=(List.getElem?_eq_some_iff.1 hT).1
 have hJN:J≠some N:=by
  rintro rfl
  obtain ⟨v,_,h⟩:=hrow
  rw [hT] at h
  cases h
 have hJl:∀ j,J=some j→j<H.length:=by
  rintro j rfl
  obtain ⟨v,_,h⟩:=hrow
  exact (List.getElem?_eq_some_iff.1 h).1
 have hrow':∀ T:List Ob,AQe (H++T) o l J:=fun T=>by
  cases J with
  | none=>exact hrow
  | some j =>
   obtain ⟨v,h1,h2⟩:=hrow
   exact ⟨v,h1,by rw [List.getElem?_append_left (hJl j rfl)]; exact h2⟩
 refine AyI.callsP (AyI.mono (A16 (J:=J) (line:=x) (hrow' _) (by simp) (fun e=>Nat.lt_irrefl _ (hJl _ e)) hl (by omega)) ?_)
 rintro y H2 ⟨j,k1,k2,k3⟩
 have hTn:H2[N]?=some (.obj 0 (.agg [o,tb bad])):=by
  rw [k2.2 N (by simp; omega) hJN,List.getElem?_append_left hNl]; exact hT
 have h2l:H.length+1≤H2.length:=by have:=k2.1; simpa using this
 have hjN:j≠N:=by
  rcases k3 with h | h
  ·rintro rfl; exact hJN h
  ·simp at h; omega
 have hyw:AyK y=1∧AKX y=false∧AzB y=false∧lays y=true:=by
  obtain ⟨v,rfl,_⟩:=k1; exact ⟨rfl,rfl,rfl,rfl⟩
 obtain ⟨y1,y2,y3,y4⟩:=hyw
 refine ⟨?_,?_⟩
 ·simp -dsimp (disch:=first | assumption | omega | (simp only [AyA];try omega)) only [↓AyF,AyB,AyE,AyD,eq_self,Nat.reduceEqDiff,↓reduceIte,reduceCtorEq,hTn,y1,y4,o1]
  refine ⟨hk _ y j ?_ (List.getElem?_set_self (by omega)) (fun i hi hiN hJi => ?_) (by rw [List.length_set]; omega) ?_,ASi⟩
  ·obtain ⟨v,hy,hj2⟩:=k1
   exact ⟨v,hy,by rw [List.getElem?_set_ne (Ne.symm hjN)]; exact hj2⟩
  ·rw [List.getElem?_set_ne (Ne.symm hiN),k2.2 i (by simp; omega) hJi,List.getElem?_append_left hi]
  ·rcases k3 with h | h
   ·exact .inl h
   ·simp at h; exact .inr (by omega)
 ·refine AYc (id:=N) (ver:=0) (p:=[(0,0)]) (by simp [get]) ?_ ASi
  rw [hTn,List.getElem?_append_left hNl,hT]
end
section
open Go.RowKit
variable [AyZ]
theorem A57 {H:List Ob} {N:Nat} {o:TV} {bad:Bool} {K:TV→List Ob→Prop} (hT:H[N]?=some (.obj 0 (.agg [o,tb bad]))) (ho:AyK o=1) (hag:AKX o=false) (htu:AzB o=false)
  (hk:K (.tup (if bad then [AFl,eno 111] else [o,.val .nilIface])) H) :
  AyI Tryz.prog 32 [.op N 0 []] H K:=by
 refine ANb (by simp) ?_
 cases bad with
 | true =>
  simp -dsimp (disch:=first | assumption | omega | (simp only [AyA];try omega)) only [↓AyF,AyB,AyE,AyD,eq_self,Nat.reduceEqDiff,↓reduceIte,Nat.reduceAdd,reduceCtorEq,hT,ho,↓AGR]
  exact hk
 | false =>
  simp -dsimp (disch:=first | assumption | omega | (simp only [AyA];try omega)) only [↓AyF,AyB,AyE,AyD,eq_self,Nat.reduceEqDiff,↓reduceIte,Nat.reduceAdd,reduceCtorEq,hT,ho,hag,htu,↓AGR]
  exact hk
theorem A4l {H:List Ob} {N:Nat} {o:TV} {l:List UInt8} {bad:Bool} {J:Option Nat} (hT:H[N]?=some (.obj 0 (.agg [o,tb bad]))) (hrow:AQe H o l J) (hl:l.length≤100000000000) {K:TV→List Ob→Prop}
  (hk:∀ H' o' j,AQe H' o' (l++ABT) (some j)→H'[N]?=some (.obj 0 (.agg [o',tb bad]))→(∀ i,i<H.length→i≠N→J≠some i→H'[i]?=H[i]?)→H.length≤H'.length→(J=some j∨H.length≤j)→K (.tup []) H') :
  AyI Tryz.prog 31 [.op N 0 []] H K:=by
 refine ALe (by simp) ?_
 have hNl:N<H.length:=(List.getElem?_eq_some_iff.1 hT).1
 have z4:ABT.length=4:=rfl
 cases J with
 | none =>
  obtain ⟨rfl,rfl⟩:=hrow
  have hA:∀ T:List Ob,(H++T)[N]?=some (.obj 0 (.agg [AFl,tb bad])):=fun T=>by rw [List.getElem?_append_left hNl]; exact hT
  simp -dsimp (disch:=first | assumption | omega | (simp only [AyA];try omega)) only [↓AyF,AyB,AyE,AyD,eq_self,Nat.reduceEqDiff,↓reduceIte,reduceCtorEq,Nat.reduceLeDiff,hT,hA,bl4,z4,↓AFR]
  refine hk _ _ H.length ⟨1,rfl,?_⟩ ?_ (fun i hi hiN _ => ?_) (by simp) (.inr (Nat.le_refl _))
  ·rw [List.getElem?_append_right (by simp)]; simp [z4]
  ·rw [List.getElem?_append_left (by simpa using hNl),List.getElem?_set_self hNl]; rfl
  ·rw [List.getElem?_append_left (by simpa using hi),List.getElem?_set_ne (Ne.symm hiN)]
 | some j =>
  obtain ⟨v,rfl,hj⟩:=hrow
  have hjN:j≠N:=by rintro rfl; rw [hT] at hj; cases hj
  have hjl:j<H.length:=(List.getElem?_eq_some_iff.1 hj).1
  have hS:∀ o:Ob,(H.set j o)[N]?=some (.obj 0 (.agg [.os 1 j v [] 0 l.length l.length,tb bad])):=fun o=>by rw [List.getElem?_set_ne hjN]; exact hT
  have hlt:(l.map by8).take l.length=l.map by8:=List.take_of_length_le (by simp)
  simp -dsimp (disch:=first | assumption | omega | (simp only [AyA];try omega)) only [↓AyF,AyB,AyE,AyD,eq_self,Nat.reduceEqDiff,↓reduceIte,reduceCtorEq,Nat.reduceLeDiff,hT,hj,hS,hlt,bl4,z4,↓AFR]
  have hL:(l++ABT).length=l.length+4:=by simp [z4]
  refine hk _ _ j ⟨v+1,rfl,?_⟩ ?_ (fun i hi hiN hji => ?_) (by simp) (.inl rfl)
  ·rw [List.getElem?_set_ne (Ne.symm hjN),List.getElem?_set_self hjl,hL,List.map_append]
  ·rw [List.getElem?_set_self (by simpa using hNl),hL]
  ·rw [List.getElem?_set_ne (Ne.symm hiN),List.getElem?_set_ne (fun e=>hji (by rw [e]))]
end
section
open Go.RowKit
variable [AyZ]
theorem A2S {K:TV→Prop} [Tg K] (x:TV) (h:K x):vex K:=⟨x,h⟩
theorem A2M (n:Nat) (h:n<16):Azk Tryz.prog 59 [.val (.int .u8 (n:Int))] (fun r=>r=by8 (dig n)):=by
 refine AyI.toPureV (AQ9 (by simp) ?_)
 by_cases h1:n<10
 ·simp -dsimp (disch:=first | assumption | omega) only [↓AyF,AyB,AyE,AyD,eq_self,↓reduceIte,reduceCtorEq,↓AJA,AQR]
  have e:(48+n) % 256=48+n:=by omega
  rw [e,AVi (by omega)]
  unfold dig; rw [if_pos h1]
 ·simp -dsimp (disch:=first | assumption | omega) only [↓AyF,AyB,AyE,AyD,eq_self,↓reduceIte,reduceCtorEq,↓AJA,AQR]
  have e:(97+n) % 256=97+n:=by omega
  rw [e]
  simp -dsimp (disch:=first | assumption | omega) only [↓AyF,AyB,AyE,AyD,eq_self,↓reduceIte,↓AJA,AQ1]
  have e2:97+n - 10=87+n:=by omega
  rw [e2,AVi (by omega)]
  unfold dig; rw [if_neg h1]
theorem Bat {x:UInt8}:AAD 5 .quo (.int .u8 (x.toNat:Int)) (.int .u8 ((16:Nat):Int))=some (.int .u8 ((x.toNat / 16:Nat):Int)):=A6l (by omega) (by have:=x.toNat_lt; omega)
theorem Bce {a b:TV}:((List.replicate 2 (TV.val (Value.int IntKind.u8 ((0:Nat):Int)))).set 0 a).set 1 b=[a,b]:=by simp [List.replicate]
theorem AXN (l:List UInt8) (hl:l.length=20):Azk Tryz.prog 35 [.arr 20 1 (l.map by8)] (fun r=>r = .val (.string (str (Azq l)))):=by
 refine AyI.toPureV (AT2 (by simp) ?_)
 simp -dsimp (disch:=first | assumption | omega) only [↓AyF,AyB,AyE,AyD,eq_self,Nat.reduceEqDiff,↓reduceIte,↓AMG]
 refine AAW (fun q e H=>∃ (i v:Nat),q=20 - i∧i≤20∧e=[(1,.op 0 0 []),(3,.os 1 1 v [] 0 (2*i) (2*i)),(4,i64 (i:Int))] ∧
  H=[.obj 0 (.arr 20 1 (l.map by8)),.obj v (.arr (2*i) 1 ((Azq (l.take i)).map by8))]) 20 ?_ ?_
 ·exact ⟨0,0,by simp,by simp,rfl,by simp [Azq]⟩
 ·rintro q e H ⟨i,v,rfl,hi,rfl,rfl⟩
  by_cases h:i<20
  ·have hg:l[i]?=some l[i]:=List.getElem?_eq_getElem (by omega)
   have hsucc:=List.take_succ_eq_append_getElem (l:=l) (i:=i) (by omega)
   have hsn:=AQX (l.take i) l[i]
   rw [←hsucc] at hsn
   have hlen:(Azq (l.take i)).length=2*i:=by rw [AA5,List.length_take]; omega
   generalize hr2:Azq (l.take (i+1))=r2 at *
   generalize Azq (l.take i)=r at *
   generalize l[i]=c at *
   have hc:=c.toNat_lt
   have htk:(r.map by8).take (2*i)=r.map by8:=List.take_of_length_le (by simp [hlen])
   have htk2:r.take (2*i)=r:=List.take_of_length_le (by omega)
   simp -dsimp (disch:=first | assumption | omega) only [↓AyF,AyB,AyE,AyD,eq_self,Nat.reduceEqDiff,↓reduceIte,↓AMG,hg,Bat]
   refine A2S (by8 (dig (c.toNat / 16))) ⟨(A2M _ (by omega)).calls rfl (fun x hx=>⟨hx,rfl⟩),?_⟩
   simp -dsimp (disch:=first | assumption | omega) only [↓AyF,AyB,AyE,AyD,eq_self,Nat.reduceEqDiff,↓reduceIte,hg]
   refine (A2M _ (by omega)).calls rfl ?_
   rintro x rfl
   have t2:[by8 (dig (c.toNat / 16)),by8 (dig (c.toNat % 16))].take 2=[by8 (dig (c.toNat / 16)),by8 (dig (c.toNat % 16))]:=rfl
   simp -dsimp (disch:=first | assumption | omega) only [↓AyF,AyB,AyE,AyD,eq_self,Nat.reduceEqDiff,↓reduceIte,Nat.reduceAdd,Nat.reduceLeDiff,Bce,htk,t2]
   refine AZe (20 - (i+1)) 2 (by omega) (by simp) rfl (by simp [AMk,ATu,ADb]) ⟨i+1,v+1,rfl,by omega,?_,?_⟩
   ·have:2*(i+1)=2*i+2:=by omega
    rw [this]; rfl
   ·have:2*(i+1)=2*i+2:=by omega
    rw [this,hr2,hsn]; simp
  ·have hi2:i=20:=by omega
   subst hi2
   have htl:l.take 20=l:=List.take_of_length_le (by omega)
   have hlen:(Azq l).length=40:=by rw [AA5]; omega
   rw [htl]
   have htk:((Azq l).map by8).take (2*20)=(Azq l).map by8:=List.take_of_length_le (by simp [hlen])
   have htk2:(Azq l).take (2*20)=Azq l:=List.take_of_length_le (by omega)
   simp -dsimp (disch:=first | assumption | omega) only [↓AyF,AyB,AyE,AyD,eq_self,Nat.reduceLT,Nat.reduceEqDiff,Nat.reduceMul,↓reduceIte,↓AMG,htk]
end
section
open Go.RowKit
variable [AyZ]
def hv (c:UInt8):Nat:=if 48≤c.toNat∧c.toNat≤57 then c.toNat - 48 else if 97≤c.toNat∧c.toNat≤102 then c.toNat - 87 else 16
theorem AZy:∀ n,n<256→Lib.indexByte AO3 (UInt8.ofNat n)=if hv (UInt8.ofNat n)<16 then (hv (UInt8.ofNat n):Int) else -1:=by decide +kernel
theorem A7B (c:UInt8):Lib.indexByte AO3 c=if hv c<16 then (hv c:Int) else -1:=by
 have h:=AZy c.toNat c.toNat_lt
 rwa [UInt8.ofNat_toNat] at h
theorem AVj:∀ n,n<16→hv (dig n)=n:=by decide
def AAB:List UInt8→List UInt8
 | a::b::l=>UInt8.ofNat (hv a*16+hv b)::AAB l
 | _=>[]
def ADV (s:List UInt8):Bool:=decide (s.length=40) && s.all fun c=>decide (hv c<16)
theorem AEv:∀ {n:Nat} {s:List UInt8},s.length=2*n→(AAB s).length=n
 | 0,s,h=>by rw [List.length_eq_zero_iff.1 (by omega:s.length=0)]; rfl
 | n+1,[],h=>by simp at h
 | n+1,[a],h=>by simp at h; omega
 | n+1,a::b::s,h=>by
  rw [AAB,List.length_cons,AEv (n:=n) (by simp at h; omega)]
theorem AMH:∀ {n:Nat} {s:List UInt8} {a b:UInt8},s.length=2*n→AAB (s++[a,b])=AAB s++[UInt8.ofNat (hv a*16+hv b)]
 | 0,s,a,b,h=>by rw [List.length_eq_zero_iff.1 (by omega:s.length=0)]; rfl
 | n+1,[],a,b,h=>by simp at h
 | n+1,[x],a,b,h=>by simp at h; omega
 | n+1,x::y::s,a,b,h=>by
  rw [List.cons_append,List.cons_append,AAB,AAB,AMH (n:=n) (by simp at h; omega),List.cons_append]
theorem AUX {s:List UInt8} {i:Nat} (h:2*i+1<s.length):s.take (2*(i+1))=s.take (2*i)++[s[2*i],s[2*i+1]]:=by
 have e:2*(i+1)=2*i+1+1:=by omega
 rw [e,List.take_succ_eq_append_getElem h,List.take_succ_eq_append_getElem (by omega),List.append_assoc]; rfl
def zer (n:Nat):List UInt8:=List.replicate n 0
theorem ASH:(zer 20).map by8=List.replicate 20 (TV.val (.int .u8 ((0:Nat):Int))):=by simp [zer,by8]
def ACN (s:List UInt8):List UInt8:=if ADV s then AAB s else zer 20
theorem AU0 {l:List UInt8} {n:Nat} {b:UInt8} (h:0<n):((l++zer n).map by8).set l.length (by8 b)=((l++[b])++zer (n - 1)).map by8:=by
 obtain ⟨m,rfl⟩:∃ m,n=m+1:=⟨n - 1,by omega⟩
 rw [←List.map_set,List.set_append_right _ _ (Nat.le_refl _),Nat.sub_self,Nat.add_sub_cancel]
 simp [zer,List.replicate_succ]
theorem A2I (l:List UInt8) (c:UInt8):Azk Tryz.prog 95 [.val (.string (str l)),by8 c] (fun x=>x = .val (.int .i64 (Lib.indexByte l c))):=by
 refine AyI.toPureV (AJP (by simp) ?_)
 simp -dsimp (disch:=first | assumption | omega) only [↓AyF,AyB,AyE,AyD,eq_self,Nat.reduceEqDiff,↓reduceIte,Nat.reduceAdd,reduceCtorEq,↓AEq]
 refine (ATU l c).calls rfl ?_
 rintro x rfl
 simp -dsimp (disch:=first | assumption | omega) only [↓AyF,AyB,AyE,AyD,eq_self,↓reduceIte,↓AEq]
theorem Bcc {a b:Nat} (ha:a<16) (hb:b<16):a*2 ^ 4 ||| b=a*16+b:=by
 have h:=Nat.two_pow_add_eq_or_of_lt (i:=4) (b:=b) (by omega) a
 rw [Nat.mul_comm] at h
 rw [←h]
theorem AGc {s:List UInt8} (h:s.length=40):ADV s=true↔∀ c∈s,hv c<16:=by
 unfold ADV
 rw [Bool.and_eq_true,List.all_eq_true]
 simp [h]
theorem A2E (s:List UInt8) (hs:s.length≤1000000):Azk Tryz.prog 65 [.val (.string (str s))] (fun r=>r = .tup [.arr 20 1 ((ACN s).map by8),if ADV s then .val .nilIface else eno 12]):=by
 refine AyI.toPureV (APk (by simp) ?_)
 by_cases h40:s.length=40
 case neg =>
  have hok:ADV s=false:=by unfold ADV; rw [Bool.and_eq_false_iff]; left; simpa using h40
  unfold ACN
  rw [hok,if_neg (by simp),if_neg (by simp),ASH]
  simp -dsimp (disch:=first | assumption | omega) only [↓AyF,AyB,AyE,AyD,eq_self,Nat.reduceEqDiff,↓reduceIte,reduceCtorEq,↓AAQ,ACj]
  rfl
 simp -dsimp (disch:=first | assumption | omega) only [↓AyF,AyB,AyE,AyD,eq_self,Nat.reduceEqDiff,↓reduceIte,reduceCtorEq,↓AAQ,ACj]
 refine AAW (fun q e H=>∃ i:Nat,q=20 - i∧i≤20∧(∀ c∈s.take (2*i),hv c<16)∧e=[(0,.val (.string (str s))),(2,.op 0 0 []),(4,.op 1 0 []),(13,i64 (i:Int))] ∧
  H=[.obj 0 (.arr 20 1 ((zer 20).map by8)),.obj 0 (.arr 20 1 ((AAB (s.take (2*i))++zer (20 - i)).map by8))]) 20 ?_ ?_
 ·exact ⟨0,by simp,by simp,by simp,rfl,rfl⟩
 ·rintro q e H ⟨i,rfl,hi,hall,rfl,rfl⟩
  by_cases h:i<20
  ·have h1:2*i<s.length:=by omega
   have h2:2*i+1<s.length:=by omega
   have hg1:s[2*i]?=some s[2*i]:=List.getElem?_eq_getElem h1
   have hg2:s[2*i+1]?=some s[2*i+1]:=List.getElem?_eq_getElem h2
   have htw:=AUX h2
   have hpl:(AAB (s.take (2*i))).length=i:=AEv (by rw [List.length_take]; omega)
   have hps:=AMH (n:=i) (s:=s.take (2*i)) (a:=s[2*i]) (b:=s[2*i+1]) (by rw [List.length_take]; omega)
   rw [←htw] at hps
   have hm1:=List.getElem_mem h1
   have hm2:=List.getElem_mem h2
   have hmem:∀ c∈s.take (2*(i+1)),c∈s.take (2*i)∨c=s[2*i]∨c=s[2*i+1]:=by
    intro c hc
    rw [htw,List.mem_append] at hc
    rcases hc with hc | hc
    ·exact .inl hc
    ·simp only [List.mem_cons,List.not_mem_nil,or_false] at hc; exact .inr hc
   generalize s[2*i]=a at *
   generalize s[2*i+1]=b at *
   generalize hP:AAB (s.take (2*i))=P at *
   have hsf:=AU0 (l:=P) (n:=20 - i) (b:=UInt8.ofNat (hv a*16+hv b)) (by omega)
   rw [hpl] at hsf
   have hget:(P++zer (20 - i))[i]?=some 0:=by
    rw [List.getElem?_append_right (by omega),hpl,Nat.sub_self]
    unfold zer; rw [List.getElem?_replicate,if_pos (by omega)]
   have hlp:(P++zer (20 - i)).length=20:=by rw [List.length_append,hpl,zer,List.length_replicate]; omega
   simp -dsimp (disch:=first | assumption | omega) only [↓AyF,AyB,AyE,AyD,eq_self,Nat.reduceEqDiff,↓reduceIte,reduceCtorEq,↓AAQ,ACj,hg1]
   refine A2S (.val (.int .i64 (Lib.indexByte AO3 a))) ⟨(A2I AO3 a).calls rfl (fun x hx=>⟨hx,rfl⟩),?_⟩
   rw [A7B a]
   simp -dsimp (disch:=first | assumption | omega) only [↓AyF,AyB,AyE,AyD,eq_self,Nat.reduceEqDiff,↓reduceIte,reduceCtorEq,ACj,hg2]
   refine (A2I AO3 b).calls rfl ?_
   rintro x rfl
   rw [A7B b]
   by_cases ha:hv a<16
   ·rw [if_pos ha]
    by_cases hb:hv b<16
    ·rw [if_pos hb]
     have ho:=Bcc ha hb
     simp -dsimp (disch:=first | assumption | omega) only [↓AyF,AyB,AyE,AyD,eq_self,Nat.reduceEqDiff,Nat.reducePow,↓reduceIte,Nat.reduceAdd,reduceCtorEq,ho,hget,hsf]
     refine AyP (20 - (i+1)) (by omega) (by simp) ⟨i+1,rfl,by omega,fun c hc => ?_,rfl,?_⟩
     ·rcases hmem c hc with hc | rfl | rfl
      ·exact hall c hc
      ·exact ha
      ·exact hb
     ·rw [hps,show 20 - (i+1)=20 - i - 1 from by omega]
    ·rw [if_neg hb]
     have hok:ADV s=false:=by
      cases hq:ADV s with
      | false=>rfl
      | true=>exact absurd ((AGc h40).1 hq b hm2) hb
     unfold ACN
     rw [hok,if_neg (by simp),if_neg (by simp),ASH]
     simp -dsimp (disch:=first | assumption | omega) only [↓AyF,AyB,AyE,AyD,eq_self,Nat.reduceEqDiff,↓reduceIte,reduceCtorEq,↓AAQ]
     rfl
   ·rw [if_neg ha]
    have hok:ADV s=false:=by
     cases hq:ADV s with
     | false=>rfl
     | true=>exact absurd ((AGc h40).1 hq a hm1) ha
    unfold ACN
    rw [hok,if_neg (by simp),if_neg (by simp),ASH]
    simp -dsimp (disch:=first | assumption | omega) only [↓AyF,AyB,AyE,AyD,eq_self,Nat.reduceEqDiff,↓reduceIte,reduceCtorEq,↓AAQ]
    rfl
  ·have hi2:i=20:=by omega
   subst hi2
   have htl:s.take (2*20)=s:=List.take_of_length_le (by omega)
   rw [htl] at hall
   have hok:ADV s=true:=(AGc h40).2 hall
   have hpl:(AAB s).length=20:=AEv (by omega)
   unfold ACN
   rw [hok,if_pos rfl,if_pos rfl,htl]
   simp -dsimp (disch:=first | assumption | omega) only [↓AyF,AyB,AyE,AyD,eq_self,Nat.reduceLT,Nat.reduceEqDiff,Nat.reduceSub,↓reduceIte,reduceCtorEq,↓AAQ]
   simp [zer]
def ALy:List UInt8→List UInt8
 | a::b::l=>UInt8.ofNat (hv a*16+hv b)::ALy l
 | [a]=>[UInt8.ofNat (hv a)]
 | []=>[]
theorem AGx:∀ {n:Nat} {s:List UInt8},s.length=2*n→ALy s=AAB s
 | 0,s,h=>by rw [List.length_eq_zero_iff.1 (by omega:s.length=0)]; rfl
 | n+1,[],h=>by simp at h
 | n+1,[a],h=>by simp at h; omega
 | n+1,a::b::s,h=>by rw [ALy,AAB,AGx (n:=n) (by simp at h; omega)]
theorem AMD:∀ {n:Nat} {s:List UInt8} {a:UInt8},s.length=2*n→ALy (s++[a])=AAB s++[UInt8.ofNat (hv a)]
 | 0,s,a,h=>by rw [List.length_eq_zero_iff.1 (by omega:s.length=0)]; rfl
 | n+1,[],a,h=>by simp at h
 | n+1,[x],a,h=>by simp at h; omega
 | n+1,x::y::s,a,h=>by rw [List.cons_append,List.cons_append,ALy,AAB,AMD (n:=n) (by simp at h; omega),List.cons_append]
theorem AYh {s:List UInt8} {c:UInt8} (h40:s.length=40) (hm:c∈s) (hc:¬ hv c<16):ADV s=false:=by
 cases hq:ADV s with
 | false=>rfl
 | true=>exact absurd ((AGc h40).1 hq c hm) hc
theorem A76 {c:UInt8} (h1:48≤c.toNat) (h2:c.toNat≤57):hv c=c.toNat - 48:=by unfold hv; rw [if_pos ⟨h1,h2⟩]
theorem A5P {c:UInt8} (h1:97≤c.toNat) (h2:c.toNat≤102):hv c=c.toNat - 87:=by unfold hv; rw [if_neg (by omega),if_pos ⟨h1,h2⟩]
theorem A8c {c:UInt8} (h1:¬ (48≤c.toNat∧c.toNat≤57)) (h2:¬ (97≤c.toNat∧c.toNat≤102)):hv c=16:=by unfold hv; rw [if_neg h1,if_neg h2]
theorem AYs {s:List UInt8} {i:Nat} (h40:s.length=40) (h:i<40) (hall:∀ c∈s.take i,hv c<16) {n:Nat} (hn:hv s[i]=n) (hn16:n<16) :
  ∃ old:UInt8,(ALy (s.take i)++zer (20 - (i+1) / 2))[i / 2]?=some old∧((ALy (s.take i)++zer (20 - (i+1) / 2)).map by8).set (i / 2) (.val (.int .u8 (((old.toNat*16 % 256+n) % 256:Nat):Int)))=(ALy (s.take (i+1))++zer (20 - (i+1+1) / 2)).map by8:=by
 have hsucc:=List.take_succ_eq_append_getElem (l:=s) (i:=i) (by omega)
 rcases Nat.mod_two_eq_zero_or_one i with hp | hp
 ·obtain ⟨k,rfl⟩:∃ k,i=2*k:=⟨i / 2,by omega⟩
  have hl:(s.take (2*k)).length=2*k:=by rw [List.length_take]; omega
  have hpl:(AAB (s.take (2*k))).length=k:=AEv hl
  have e1:20 - (2*k+1) / 2=20 - k:=by omega
  have e2:2*k / 2=k:=by omega
  have e3:20 - (2*k+1+1) / 2=20 - k - 1:=by omega
  rw [AGx hl,hsucc,AMD hl,e1,e2,e3,hn]
  refine ⟨0,?_,?_⟩
  ·rw [List.getElem?_append_right (by omega),hpl,Nat.sub_self]
   unfold zer; rw [List.getElem?_replicate,if_pos (by omega)]
  ·have hsf:=AU0 (l:=AAB (s.take (2*k))) (n:=20 - k) (b:=UInt8.ofNat n) (by omega)
   rw [hpl] at hsf
   have e4:((0:UInt8).toNat*16 % 256+n) % 256=n:=by
    have:(0:UInt8).toNat=0:=rfl
    rw [this]; omega
   rw [e4,AVi (by omega),hsf]
 ·obtain ⟨k,rfl⟩:∃ k,i=2*k+1:=⟨i / 2,by omega⟩
  have hl0:(s.take (2*k)).length=2*k:=by rw [List.length_take]; omega
  have hpl0:(AAB (s.take (2*k))).length=k:=AEv hl0
  have ht0:=List.take_succ_eq_append_getElem (l:=s) (i:=2*k) (by omega)
  have hl:(s.take (2*(k+1))).length=2*(k+1):=by rw [List.length_take]; omega
  have htw:=AUX (s:=s) (i:=k) (by omega)
  have hm:s[2*k]∈s.take (2*k+1):=by rw [ht0]; exact List.mem_append_right _ (List.mem_singleton.2 rfl)
  have hx:=hall _ hm
  have e1:20 - (2*k+1+1) / 2=19 - k:=by omega
  have e2:(2*k+1) / 2=k:=by omega
  have e3:20 - (2*k+1+1+1) / 2=19 - k:=by omega
  have e5:s.take (2*k+1+1)=s.take (2*(k+1)):=rfl
  rw [e5,AGx hl,htw,AMH hl0,ht0,AMD hl0,e1,e2,e3,hn]
  refine ⟨UInt8.ofNat (hv s[2*k]),?_,?_⟩
  ·rw [List.getElem?_append_left (by simp; omega),List.getElem?_append_right (by omega),hpl0,Nat.sub_self]; rfl
  ·have e4:((UInt8.ofNat (hv s[2*k])).toNat*16 % 256+n) % 256=hv s[2*k]*16+n:=by
    rw [UInt8.toNat_ofNat',Nat.mod_eq_of_lt (show hv s[2*k]<2 ^ 8 by omega)]; omega
   rw [e4,AVi (by omega),←List.map_set]
   congr 1
   rw [List.append_assoc,List.set_append_right _ _ (by omega),hpl0,Nat.sub_self,List.append_assoc]
   rfl
theorem BbY {i:Nat} (h:i≤40):AAD 3 .quo (.int .i64 (i:Int)) (.int .i64 ((2:Nat):Int))=some (.int .i64 ((i / 2:Nat):Int)):=A2K (by omega) (by omega)
theorem AYC (s:List UInt8) (hs:s.length≤1000000):Azk Tryz.prog 69 [.val (.string (str s))] (fun r=>r = .tup [.arr 20 1 ((ACN s).map by8),tb (ADV s)]):=by
 refine AyI.toPureV (ASk (by simp) ?_)
 by_cases h40:s.length=40
 case neg =>
  have hok:ADV s=false:=by unfold ADV; rw [Bool.and_eq_false_iff]; left; simpa using h40
  unfold ACN
  rw [hok,if_neg (by simp),ASH]
  simp -dsimp (disch:=first | assumption | omega) only [↓AyF,AyB,AyE,AyD,eq_self,Nat.reduceEqDiff,↓reduceIte,reduceCtorEq,↓AAE,ACj]
  rfl
 simp -dsimp (disch:=first | assumption | omega) only [↓AyF,AyB,AyE,AyD,eq_self,Nat.reduceEqDiff,↓reduceIte,reduceCtorEq,↓AAE,ACj]
 refine AAW (fun q e H=>∃ i:Nat,q=40 - i∧i≤40∧(∀ c∈s.take i,hv c<16)∧e=[(0,.val (.string (str s))),(2,.op 0 0 []),(4,.op 1 0 []),(5,i64 (i:Int))] ∧
  H=[.obj 0 (.arr 20 1 ((zer 20).map by8)),.obj 0 (.arr 20 1 ((ALy (s.take i)++zer (20 - (i+1) / 2)).map by8))]) 40 ?_ ?_
 ·exact ⟨0,by simp,by simp,by simp,rfl,rfl⟩
 ·rintro q e H ⟨i,rfl,hi,hall,rfl,rfl⟩
  by_cases h:i<40
  ·have hg1:s[i]?=some s[i]:=List.getElem?_eq_getElem (by omega)
   have hsucc:=List.take_succ_eq_append_getElem (l:=s) (i:=i) (by omega)
   have hm:=List.getElem_mem (l:=s) (n:=i) (by omega)
   have hall2:hv s[i]<16→∀ c∈s.take (i+1),hv c<16:=by
    intro hx c hc
    rw [hsucc,List.mem_append,List.mem_singleton] at hc
    rcases hc with hc | rfl
    ·exact hall c hc
    ·exact hx
   have hst:=fun n=>AYs h40 h hall (n:=n)
   have hbad:=fun hc=>AYh h40 hm hc
   have hd2:=BbY (i:=i) (by omega)
   have hlt:=s[i].toNat_lt
   have hl2:i / 2<20:=by omega
   generalize s[i]=c at *
   by_cases h1:48≤c.toNat∧c.toNat≤57
   ·obtain ⟨h1,h2⟩:=h1
    have hc:=A76 h1 h2
    obtain ⟨old,g1,g2⟩:=hst _ hc (by omega)
    have hol:=old.toNat_lt
    simp -dsimp (disch:=first | assumption | omega) only [↓AyF,AyB,AyE,AyD,eq_self,Nat.reduceEqDiff,↓reduceIte,Nat.reduceAdd,reduceCtorEq,↓AAE,ACj,hg1,AQ1,hd2,A2U,AQR,g1,g2]
    exact AyP (40 - (i+1)) (by omega) (by simp) ⟨i+1,rfl,by omega,hall2 (by omega),rfl,rfl⟩
   ·by_cases h3:97≤c.toNat∧c.toNat≤102
    ·obtain ⟨h3,h4⟩:=h3
     have hc:=A5P h3 h4
     obtain ⟨old,g1,g2⟩:=hst _ hc (by omega)
     have e9:(c.toNat - 97+10) % 256=c.toNat - 87:=by omega
     simp -dsimp (disch:=first | assumption | omega) only [↓AyF,AyB,AyE,AyD,eq_self,Nat.reduceEqDiff,↓reduceIte,Nat.reduceAdd,reduceCtorEq,↓AAE,ACj,hg1,AQ1,hd2,A2U,AQR,e9,g1,g2]
     exact AyP (40 - (i+1)) (by omega) (by simp) ⟨i+1,rfl,by omega,hall2 (by omega),rfl,rfl⟩
    ·have hc:=A8c h1 h3
     have hok:=hbad (by omega)
     unfold ACN
     rw [hok,if_neg (by simp),ASH]
     rcases (by omega:c.toNat<48∨(57<c.toNat∧c.toNat<97)∨102<c.toNat) with h5 | ⟨h5,h6⟩ | h5
     ·simp -dsimp (disch:=first | assumption | omega) only [↓AyF,AyB,AyE,AyD,eq_self,Nat.reduceEqDiff,↓reduceIte,reduceCtorEq,↓AAE,ACj,hg1]
      rfl
     ·simp -dsimp (disch:=first | assumption | omega) only [↓AyF,AyB,AyE,AyD,eq_self,Nat.reduceEqDiff,↓reduceIte,reduceCtorEq,↓AAE,ACj,hg1]
      rfl
     ·simp -dsimp (disch:=first | assumption | omega) only [↓AyF,AyB,AyE,AyD,eq_self,Nat.reduceEqDiff,↓reduceIte,reduceCtorEq,↓AAE,ACj,hg1]
      rfl
  ·have hi2:i=40:=by omega
   subst hi2
   have htl:s.take 40=s:=List.take_of_length_le (by omega)
   rw [htl] at hall
   have hok:ADV s=true:=(AGc h40).2 hall
   have hpl:(AAB s).length=20:=AEv (by omega)
   unfold ACN
   rw [hok,if_pos rfl,htl,AGx (n:=20) (by omega)]
   simp -dsimp (disch:=first | assumption | omega) only [↓AyF,AyB,AyE,AyD,eq_self,Nat.reduceLT,Nat.reduceEqDiff,Nat.reduceSub,Nat.reduceDiv,↓reduceIte,Nat.reduceAdd,reduceCtorEq,↓AAE]
   simp [zer,tb]
end
section
open Go.RowKit
variable [AyZ]
def A3d (s:List UInt8):Prop:=∀ c∈s,c≠32
theorem AVc:∀ {s w r:List UInt8},A3d s→spl w (s++32::r)=(w++s)::spl [] r
 | [],w,r,_=>by rw [List.nil_append,spl,if_pos rfl,List.append_nil]
 | c::s,w,r,h=>by
  rw [List.cons_append,spl,if_neg (h c (by simp)),AVc (fun x hx=>h x (by simp [hx])),List.append_assoc]; rfl
theorem AVA:∀ {s w:List UInt8},A3d s→spl w s=[w++s]
 | [],w,_=>by rw [spl,List.append_nil]
 | c::s,w,h=>by
  rw [spl,if_neg (h c (by simp)),AVA (fun x hx=>h x (by simp [hx])),List.append_assoc]; rfl
theorem AOT {a b:List UInt8} {l:List (List UInt8)}:Lib.join (a::b::l) [32]=a++32::Lib.join (b::l) [32]:=by
 simp [Lib.join,List.intercalate]
theorem AJO {a:List UInt8}:Lib.join [a] [32]=a:=by simp [Lib.join,List.intercalate]
theorem AVD:∀ {ws:List (List UInt8)},ws≠[]→(∀ w∈ws,A3d w)→spl [] (Lib.join ws [32])=ws
 | [],h,_=>absurd rfl h
 | [a],_,h=>by rw [AJO,AVA (h a (by simp)),List.nil_append]
 | a::b::l,_,h=>by
  rw [AOT,AVc (h a (by simp)),AVD (by simp) (fun w hw=>h w (by simp [hw])),List.nil_append]
theorem AUe (s:List UInt8):ABe (s++[10])=s:=by simp [ABe]
def AAO (ws:List (List UInt8)):List UInt8:=Lib.join ws [32]++[10]
theorem AVP {ws:List (List UInt8)} (hne:ws≠[]) (h:∀ w∈ws,A3d w):ACI (AAO ws)=ws:=by
 unfold ACI AAO
 rw [AUe,AVD hne h]
def AJJ (wss:List (List (List UInt8))):List UInt8:=wss.flatMap fun ws=>Azb (AAO ws)
theorem AOV {a b:List (List (List UInt8))}:AJJ (a++b)=AJJ a++AJJ b:=by simp [AJJ]
theorem AOR {ws:List (List UInt8)}:AJJ [ws]=Azb (AAO ws):=by simp [AJJ]
theorem ASp {wss:List (List (List UInt8))} (h:∀ ws∈wss,(AAO ws).length≤1000):AyV (wss.map AAO) (AJJ wss) :=
 ⟨fun x hx=>by obtain ⟨ws,hw,rfl⟩:=List.mem_map.1 hx; exact h ws hw,by rw [AJJ,List.flatMap_map]⟩
theorem AyV.app {l m:List (List UInt8)} {a b:List UInt8} (h:AyV l a) (k:AyV m b):AyV (l++m) (a++b) :=
 ⟨fun x hx=>(List.mem_append.1 hx).elim (h.1 x) (k.1 x),by rw [List.flatMap_append,h.2,k.2]⟩
theorem AWH:AyV [[]] ABT:=⟨by simp,rfl⟩
theorem APl {wss:List (List (List UInt8))} (h:∀ ws∈wss,ws≠[]∧∀ w∈ws,A3d w):(wss.map AAO).map ACI=wss:=by
 rw [List.map_map]
 conv=>rhs; rw [←List.map_id wss]
 exact List.map_congr_left fun ws hw=>AVP (h ws hw).1 (h ws hw).2
theorem AYB:∀ n,n<16→dig n≠32:=by decide
theorem A4r (l:List UInt8):A3d (Azq l):=fun c hc=>by
 unfold Azq at hc
 obtain ⟨x,_,hx⟩:=List.mem_flatMap.1 hc
 have:=x.toNat_lt
 simp only [List.mem_cons,List.mem_nil_iff,or_false] at hx
 rcases hx with rfl | rfl
 ·exact AYB _ (by omega)
 ·exact AYB _ (by omega)
theorem AVh {l:List UInt8} (h:l.length=20):ADV (Azq l)=true∧AAB (Azq l)=l:=by
 have h2:∀ l:List UInt8,AAB (Azq l)=l∧∀ c∈Azq l,hv c<16:=fun l=>by
  induction l with
  | nil=>exact ⟨rfl,by simp [Azq]⟩
  | cons x l ih =>
   have hx:=x.toNat_lt
   have e:Azq (x::l)=dig (x.toNat / 16)::dig (x.toNat % 16)::Azq l:=by simp [Azq]
   rw [e]
   refine ⟨?_,fun c hc => ?_⟩
   ·rw [AAB,ih.1,AVj _ (by omega),AVj _ (by omega)]
    congr 1
    apply UInt8.toNat_inj.1
    rw [UInt8.toNat_ofNat']
    omega
   ·simp only [List.mem_cons] at hc
    rcases hc with rfl | rfl | hc
    ·rw [AVj _ (by omega)]; omega
    ·rw [AVj _ (by omega)]; omega
    ·exact ih.2 c hc
 have hl:(Azq l).length=40:=by rw [AA5]; omega
 exact ⟨(AGc hl).2 (h2 l).2,(h2 l).1⟩
end
section
open Go.RowKit
variable [AyZ]
def TSt (N z:Nat) (H:List Ob) (l:List UInt8) (ok:Prop) (n:Nat):Prop:=∃ (o:TV) (m:List UInt8) (bad:Bool) (J:Option Nat),H[N]?=some (.obj 0 (.agg [o,tb bad]))∧AQe H o m J∧J≠some z∧(bad=false↔ok)∧(ok→m=l)∧m.length≤n∧z≤N
theorem TSt.iff {N z:Nat} {H:List Ob} {l:List UInt8} {ok ok':Prop} {n:Nat} (h:TSt N z H l ok n) (e:ok↔ok'):TSt N z H l ok' n:=by
 obtain ⟨o,m,bad,J,h1,h2,h3,h4,h5,h6,h7⟩:=h
 exact ⟨o,m,bad,J,h1,h2,h3,h4.trans e,fun k=>h5 (e.2 k),h6,h7⟩
theorem TSt.le {N z:Nat} {H:List Ob} {l:List UInt8} {ok:Prop} {n n':Nat} (h:TSt N z H l ok n) (e:n≤n'):TSt N z H l ok n':=by
 obtain ⟨o,m,bad,J,h1,h2,h3,h4,h5,h6,h7⟩:=h
 exact ⟨o,m,bad,J,h1,h2,h3,h4,h5,by omega,h7⟩
theorem AQe.lt {H:List Ob} {o:TV} {l:List UInt8} {j:Nat} (h:AQe H o l (some j)):j<H.length:=by
 obtain ⟨v,_,h⟩:=h
 exact (List.getElem?_eq_some_iff.1 h).1
theorem AQe.same {H H':List Ob} {o:TV} {l:List UInt8} {J:Option Nat} (h:AQe H o l J) (k:∀ j,J=some j→H'[j]?=H[j]?):AQe H' o l J:=by
 cases J with
 | none=>exact h
 | some j =>
  obtain ⟨v,h1,h2⟩:=h
  exact ⟨v,h1,by rw [k j rfl]; exact h2⟩
theorem TSt.lt {N z:Nat} {H:List Ob} {l:List UInt8} {ok:Prop} {n:Nat} (h:TSt N z H l ok n):N<H.length:=by
 obtain ⟨o,m,bad,J,h1,_⟩:=h
 exact (List.getElem?_eq_some_iff.1 h1).1
theorem TSt.grow {N z:Nat} {H:List Ob} {l:List UInt8} {ok:Prop} {n:Nat} (h:TSt N z H l ok n) (T:List Ob):TSt N z (H++T) l ok n:=by
 have hl:=h.lt
 obtain ⟨o,m,bad,J,h1,h2,h3,h4,h5,h6,h7⟩:=h
 refine ⟨o,m,bad,J,by rw [List.getElem?_append_left hl]; exact h1,h2.same fun j e => ?_,h3,h4,h5,h6,h7⟩
 subst e
 exact List.getElem?_append_left h2.lt
theorem AQe.one {H:List Ob} {o:TV} {l:List UInt8} {J:Option Nat} (h:AQe H o l J):AyK o=1∧AKX o=false∧AzB o=false:=by
 cases J with
 | none=>obtain ⟨rfl,_⟩:=h; exact ⟨rfl,rfl,rfl⟩
 | some j=>obtain ⟨v,rfl,_⟩:=h; exact ⟨rfl,rfl,rfl⟩
theorem TSt.new {N z:Nat} {H:List Ob} (h:H[N]?=some (.obj 0 (.agg [AFl,tb false]))) (hz:z≤N):TSt N z H [] True 0:=⟨AFl,[],false,none,h,⟨rfl,rfl⟩,by simp,by simp,fun _=>rfl,by simp,hz⟩
theorem A7j {N z:Nat} {H:List Ob} {l:List UInt8} {ok:Prop} {n:Nat} {b:Bool} {K:TV→List Ob→Prop} (h:TSt N z H l ok n) (hk:∀ H',TSt N z H' l (ok∧b=true) n→(∀ i,i≠N→H'[i]?=H[i]?)→H'.length=H.length→K (.tup []) H') :
  AyI Tryz.prog 27 [.op N 0 [],tb b] H K:=by
 have hl:=h.lt
 obtain ⟨o,m,bad,J,h1,h2,h3,h4,h5,h6,h7⟩:=h
 have hJ1:J≠some N:=by rintro rfl; obtain ⟨v,_,h⟩:=h2; rw [h1] at h; cases h
 refine A7J h1 h2.one.1 (hk _ ⟨o,m,_,J,List.getElem?_set_self hl,h2.same fun j e=>List.getElem?_set_ne (fun k=>hJ1 (by rw [e,k])),h3,?_,fun k=>h5 k.1,h6,h7⟩ (fun i hi=>List.getElem?_set_ne (Ne.symm hi)) (by simp))
 cases bad<;>cases b<;>simp_all
theorem BaD {N z:Nat} {H:List Ob} {l:List UInt8} {ok:Prop} {n id ver cp:Nat} {ws:List (List UInt8)} {K:TV→List Ob→Prop} (h:TSt N z H l ok n) (hws:H[id]?=some (.obj ver (.arr ws.length 1 (ws.map ts)))) (hne:ws≠[]) (hwn:ws.length≤1000000) (hj:(Lib.join ws [32]).length≤3000000) (hn:n≤100000000000)
  (hk:∀ H',TSt N z H' (l++Azb (AAO ws)) ok (n+3000015)→(z<N→H'[z]?=H[z]?)→H.length≤H'.length→K (.tup []) H') :
  AyI Tryz.prog 29 [.op N 0 [],.os 1 id ver [] 0 ws.length cp] H K:=by
 have hl:=h.lt
 obtain ⟨o,m,bad,J,h1,h2,h3,h4,h5,h6,h7⟩:=h
 refine Bb7 h1 h2 hws hne hwn hj (by omega) fun H' o' j k1 k2 k3 k4 k5=>hk H' ⟨o',_,bad,some j,k2,k1,?_,h4,fun k=>by rw [h5 k]; rfl,?_,h7⟩ (fun hz=>k3 z (by omega) (by omega) h3) k4
 ·rintro e
  rw [Option.some.inj e] at k5
  rcases k5 with e | e
  ·exact h3 e
  ·omega
 ·rw [List.length_append,AA9,List.length_append,List.length_singleton]; omega
theorem A7L {N z:Nat} {H:List Ob} {l:List UInt8} {ok:Prop} {n:Nat} {K:TV→List Ob→Prop} (h:TSt N z H l ok n) (hn:n≤100000000000)
  (hk:∀ H',TSt N z H' (l++ABT) ok (n+4)→(z<N→H'[z]?=H[z]?)→H.length≤H'.length→K (.tup []) H') :
  AyI Tryz.prog 31 [.op N 0 []] H K:=by
 have hl:=h.lt
 obtain ⟨o,m,bad,J,h1,h2,h3,h4,h5,h6,h7⟩:=h
 refine A4l h1 h2 (by omega) fun H' o' j k1 k2 k3 k4 k5=>hk H' ⟨o',_,bad,some j,k2,k1,?_,h4,fun k=>by rw [h5 k],?_,h7⟩ (fun hz=>k3 z (by omega) (by omega) h3) k4
 ·rintro e
  rw [Option.some.inj e] at k5
  rcases k5 with e | e
  ·exact h3 e
  ·omega
 ·rw [List.length_append]; show m.length+4≤n+4; omega
def AUZ (H:List Ob) (l:List UInt8) (ok:Prop) (x y:TV):Prop:=(ok∧(∃ j v,x = .os 1 j v [] 0 l.length l.length∧H[j]?=some (.obj v (.arr l.length 1 (l.map by8))))∧y = .val .nilIface)∨(¬ ok∧x=AFl∧y=eno 111)
theorem A89 {N z:Nat} {H:List Ob} {l:List UInt8} {ok:Prop} {n:Nat} {K:TV→List Ob→Prop} (h:TSt N z H l ok n) (hl:l≠[])
  (hk:∀ x y,AUZ H l ok x y→K (.tup [x,y]) H) :
  AyI Tryz.prog 32 [.op N 0 []] H K:=by
 obtain ⟨o,m,bad,J,h1,h2,h3,h4,h5,h6,h7⟩:=h
 have:=h2.one
 refine A57 h1 this.1 this.2.1 this.2.2 ?_
 cases bad with
 | true=>exact hk _ _ (.inr ⟨(fun k=>Bool.noConfusion (h4.2 k)),rfl,rfl⟩)
 | false =>
  have hok:=h4.1 rfl
  obtain rfl:=h5 hok
  cases J with
  | none=>exact absurd h2.2 hl
  | some j =>
   obtain ⟨v,rfl,hj⟩:=h2
   exact hk _ _ (.inl ⟨hok,⟨j,v,rfl,hj⟩,rfl⟩)
end
section
open Go.RowKit
theorem A3t {k l:List UInt8} {x:TV}:∀ {es:List (List UInt8×TV)},AD3 k (AGs l x es)=if l=k then some x else AD3 k es
 | []=>by simp [AGs,AD3]
 | (q,y)::es=>by
  rw [AGs]
  by_cases hq:q=l
  ·subst hq
   rw [if_pos rfl,AD3,AD3]
   by_cases h:q=k<;>simp [h]
  ·rw [if_neg hq,AD3,AD3,A3t]
   by_cases h:q=k
   ·subst h; rw [if_pos rfl,if_neg (fun e=>hq e.symm),if_pos rfl]
   ·rw [if_neg h,if_neg h]
theorem AXw {k:List UInt8} {x:TV}:∀ {es:List (List UInt8×TV)},(AGs k x es)[AMt k es]?=some (k,x)
 | []=>by simp [AGs,AMt]
 | (q,y)::es=>by
  rw [AGs,AMt]
  by_cases hq:q=k
  ·subst hq; simp
  ·rw [if_neg hq,if_neg hq,List.getElem?_cons_succ,AXw]
theorem AVE {k:List UInt8} {x y:TV}:∀ {es:List (List UInt8×TV)},(AGs k x es).set (AMt k es) (k,y)=AGs k y es
 | []=>by simp [AGs,AMt]
 | (q,z)::es=>by
  rw [AGs,AMt]
  by_cases hq:q=k
  ·subst hq; simp [AGs]
  ·rw [if_neg hq,if_neg hq,List.set_cons_succ,AVE,AGs,if_neg hq]
def Cnt (es:List (List UInt8×TV)) (m:List (List UInt8)):Prop:=∀ l,(AD3 l es).getD (i64 ((0:Nat):Int))=i64 ((m.count l:Nat):Int)
theorem Cnt.add {es:List (List UInt8×TV)} {m:List (List UInt8)} (h:Cnt es m) (l:List UInt8):Cnt (AGs l (i64 ((m.count l+1:Nat):Int)) es) (m++[l]):=by
 intro k
 rw [A3t]
 by_cases hk:l=k
 ·subst hk; simp
 ·rw [if_neg hk,h k]; simp [hk]
theorem AVq {k:List UInt8} {x:TV}:∀ {es:List (List UInt8×TV)},(AGs k x es).length=if AD3 k es=none then es.length+1 else es.length
 | []=>by simp [AGs,AD3]
 | (q,y)::es=>by
  rw [AGs,AD3]
  by_cases hq:q=k
  ·subst hq; simp
  ·rw [if_neg hq,if_neg hq,List.length_cons,AVq,List.length_cons]
   split<;>rfl
structure A3k (es:List (List UInt8×TV)) (m:List (List UInt8)):Prop where
 cnt:Cnt es m
 has:∀ l,AD3 l es≠none↔l∈m
 le:es.length≤m.length
 nd:es.length=m.length↔m.Nodup
theorem A3k.nil:A3k [] []:=⟨fun l=>by simp [AD3],fun l=>by simp [AD3],by simp,by simp⟩
theorem A3k.add {es:List (List UInt8×TV)} {m:List (List UInt8)} (h:A3k es m) (l:List UInt8):A3k (AGs l (i64 ((m.count l+1:Nat):Int)) es) (m++[l]):=by
 have hl:=AVq (k:=l) (x:=i64 ((m.count l+1:Nat):Int)) (es:=es)
 refine ⟨h.cnt.add l,fun k => ?_,?_,?_⟩
 ·rw [A3t]
  by_cases hk:l=k
  ·subst hk; simp
  ·rw [if_neg hk,h.has k]; simp [Ne.symm hk]
 ·rw [hl,List.length_append,List.length_singleton]
  have:=h.le
  split<;>omega
 ·rw [hl,List.length_append,List.length_singleton,List.nodup_append]
  by_cases hm:l∈m
  ·rw [if_neg ((h.has l).2 hm)]
   have:=h.le
   constructor
   ·intro e; omega
   ·rintro ⟨_,_,g⟩
    exact absurd rfl (g l hm l (by simp))
  ·have hn:AD3 l es=none:=Classical.byContradiction fun k=>hm ((h.has l).1 k)
   rw [if_pos hn]
   have:=h.nd
   constructor
   ·intro e
    refine ⟨this.1 (by omega),by simp,fun a ha b hb => ?_⟩
    rw [List.mem_singleton] at hb
    subst hb
    exact fun e=>hm (e▸ha)
   ·rintro ⟨g,_,_⟩
    have:=this.2 g
    omega
end
section
open Go.RowKit
variable [AyZ]
abbrev AEM:=List (List UInt8)
def idW (x:List UInt8):TV := .arr 20 1 (x.map by8)
def AFQ:List UInt8:=[119,97,110,116]
def AJl:List UInt8:=[104,97,118,101]
def AKA:List UInt8:=[100,111,110,101]
def AKs (x:List UInt8):List (List UInt8):=[AFQ,Azq x]
def AM6 (x:List UInt8):List (List UInt8):=[AJl,Azq x]
def waB (a b:AEM):List UInt8:=AJJ (a.map AKs)++ABT++AJJ (b.map AM6)++Azb (AAO [AKA])
def AZN (l:AEM):Prop:=l.Nodup∧l.length≤5000
def AN6 (a b:AEM):Prop:=AZN a∧AZN b
def AAA (l:AEM):Prop:=∀ x∈l,x.length=20
theorem AJL {a b:List UInt8}:AAO [a,b]=a++32::b++[10]:=by
 unfold AAO
 rw [AOT,AJO]
theorem AJB {w x:List UInt8} (hw:w.all (fun c=>c != 32)=true) (hl:w.length≤10) (h20:x.length=20):(([w,Azq x]:List (List UInt8))≠[]∧∀ y∈([w,Azq x]:List (List UInt8)),A3d y)∧(AAO [w,Azq x]).length≤1000:=by
 refine ⟨⟨by simp,fun y hy => ?_⟩,by rw [AJL]; simp [AA5]; omega⟩
 simp only [List.mem_cons,List.mem_nil_iff,or_false] at hy
 rcases hy with rfl | rfl
 ·intro c hc
  have:=List.all_eq_true.1 hw c hc
  simpa using this
 ·exact A4r _
def Baa (a b:AEM):List (List UInt8):=(a.map AKs).map AAO++[[]]++(b.map AM6).map AAO++[AAO [AKA]]
theorem AVs {a b:AEM} (ha:AAA a) (hb:AAA b):AyV (Baa a b) (waB a b):=by
 refine (((ASp fun ws hw => ?_).app AWH).app (ASp fun ws hw => ?_)).app ⟨fun x hx => ?_,by simp⟩
 ·obtain ⟨x,hx,rfl⟩:=List.mem_map.1 hw; exact (AJB (by decide) (by decide) (ha x hx)).2
 ·obtain ⟨x,hx,rfl⟩:=List.mem_map.1 hw; exact (AJB (by decide) (by decide) (hb x hx)).2
 ·rw [List.mem_singleton] at hx; subst hx; decide
def AJ7 (o:AEM×AEM) (w:List (List UInt8)):AEM×AEM:=match w with
 | [a,b]=>if ADV b=true then (if a=AFQ then (o.1++[AAB b],o.2) else if a=AJl then (o.1,o.2++[AAB b]) else o) else o
 | _=>o
def ARI (ls:List (List UInt8)):AEM×AEM:=(ls.map ACI).foldl AJ7 ([],[])
theorem AYi:∀ {l:AEM} {o:AEM×AEM},AAA l→(l.map AKs).foldl AJ7 o=(o.1++l,o.2)
 | [],o,_=>by simp
 | x::l,o,h=>by
  have:=AVh (h x (by simp))
  rw [List.map_cons,List.foldl_cons,AYi (fun y hy=>h y (by simp [hy]))]
  unfold AKs AJ7
  simp only [this.1,this.2,if_true,List.append_assoc,List.cons_append,List.nil_append]
theorem AXl:∀ {l:AEM} {o:AEM×AEM},AAA l→(l.map AM6).foldl AJ7 o=(o.1,o.2++l)
 | [],o,_=>by simp
 | x::l,o,h=>by
  have:=AVh (h x (by simp))
  have hne:¬ AJl=AFQ:=by decide
  rw [List.map_cons,List.foldl_cons,AXl (fun y hy=>h y (by simp [hy]))]
  unfold AM6 AJ7
  simp only [this.1,this.2,if_true,hne,if_false,List.append_assoc,List.cons_append,List.nil_append]
theorem A3X {a b:AEM} (ha:AAA a) (hb:AAA b):ARI (Baa a b)=(a,b):=by
 unfold ARI Baa
 rw [List.map_append,List.map_append,List.map_append,APl (wss:=a.map AKs) (fun ws hw=>by obtain ⟨x,hx,rfl⟩:=List.mem_map.1 hw; exact (AJB (by decide) (by decide) (ha x hx)).1),APl (wss:=b.map AM6) (fun ws hw=>by obtain ⟨x,hx,rfl⟩:=List.mem_map.1 hw; exact (AJB (by decide) (by decide) (hb x hx)).1),List.foldl_append,List.foldl_append,List.foldl_append,AYi ha]
 have h1:([[]]:List (List UInt8)).map ACI=[[[]]]:=rfl
 have h2:([AAO [AKA]]:List (List UInt8)).map ACI=[[AKA]]:=by decide
 rw [h1,h2]
 simp only [List.foldl_cons,List.foldl_nil,AJ7,List.nil_append]
 rw [AXl hb]
 simp
theorem AYO {ls:List (List UInt8)} {c:List UInt8} {a b:AEM} (hl:AyV ls c) (ha:AAA a) (hb:AAA b) (e:waB a b=c):ARI ls=(a,b):=by
 subst e
 rw [AIg hl (AVs ha hb),A3X ha hb]
theorem AX9 {c:List UInt8} (hl:∀ ls,¬ AyV ls c):∀ a b,AAA a→AAA b→waB a b≠c:=fun a b ha hb e=>hl _ (e▸AVs ha hb)
theorem AYz {ls:List (List UInt8)} {i:Nat} {x:List UInt8} (h:ls[i]?=some x):ARI (ls.take (i+1))=AJ7 (ARI (ls.take i)) (ACI x):=by
 unfold ARI
 rw [List.take_add_one,h,List.map_append,List.foldl_append]; rfl
def AT5 (n:Nat) (o:AEM×AEM):Prop:=(AAA o.1∧AAA o.2)∧o.1.length≤n∧o.2.length≤n
theorem AUf {b:List UInt8} (h:ADV b=true):(AAB b).length=20:=by
 have h40:b.length=40:=by unfold ADV at h; simp at h; exact h.1
 exact AEv (n:=20) h40
theorem AQK {l:AEM} {x:List UInt8} (h:AAA l) (hx:x.length=20):AAA (l++[x]):=fun y hy=>by
 rcases List.mem_append.1 hy with hy | hy
 ·exact h y hy
 ·rw [List.mem_singleton] at hy; subst hy; exact hx
theorem AVr {ls:List (List UInt8)}:AT5 ls.length (ARI ls):=by
 have:∀ (wss:List (List (List UInt8))) (n:Nat) (o:AEM×AEM),AT5 n o→AT5 (n+wss.length) (wss.foldl AJ7 o):=fun wss=>by
  induction wss with
  | nil=>exact fun n o h=>h
  | cons w wss ih =>
   intro n o h
   rw [List.foldl_cons,List.length_cons,show n+(wss.length+1)=(n+1)+wss.length by omega]
   refine ih _ _ ?_
   obtain ⟨⟨h1,h2⟩,h3,h4⟩:=h
   unfold AJ7
   split
   ·rename_i a b
    split
    ·rename_i hx
     split
     ·exact ⟨⟨AQK h1 (AUf hx),h2⟩,by simp; omega,by simp only; omega⟩
     ·split
      ·exact ⟨⟨h1,AQK h2 (AUf hx)⟩,by simp only; omega,by simp; omega⟩
      ·exact ⟨⟨h1,h2⟩,by omega,by omega⟩
    ·exact ⟨⟨h1,h2⟩,by omega,by omega⟩
   ·exact ⟨⟨h1,h2⟩,by omega,by omega⟩
 have h0:=this (ls.map ACI) 0 ([],[]) ⟨⟨fun x hx=>(by cases hx),fun x hx=>(by cases hx)⟩,by simp,by simp⟩
 rw [Nat.zero_add,List.length_map] at h0
 exact h0
end
section
variable [AyZ]
set_option maxRecDepth 100000
def AA1:AyC := .seq (.block 1 (.seq (.ops [po_ 15 (.idxA 20 (.t 11) (.t 13)),po_ 16 (.load true 20 (.t 15)),so_ 9 (.alloc (.arr 20 1 [.val (.int .u8 ((0:Nat):Int)),.val (.int .u8 ((0:Nat):Int)),.val (.int .u8 ((0:Nat):Int)),.val (.int .u8 ((0:Nat):Int)),.val (.int .u8 ((0:Nat):Int)),.val (.int .u8 ((0:Nat):Int)),.val (.int .u8 ((0:Nat):Int)),.val (.int .u8 ((0:Nat):Int)),.val (.int .u8 ((0:Nat):Int)),.val (.int .u8 ((0:Nat):Int)),.val (.int .u8 ((0:Nat):Int)),.val (.int .u8 ((0:Nat):Int)),.val (.int .u8 ((0:Nat):Int)),.val (.int .u8 ((0:Nat):Int)),.val (.int .u8 ((0:Nat):Int)),.val (.int .u8 ((0:Nat):Int)),.val (.int .u8 ((0:Nat):Int)),.val (.int .u8 ((0:Nat):Int)),.val (.int .u8 ((0:Nat):Int)),.val (.int .u8 ((0:Nat):Int))])),⟨none,.s (.store 20 (.t 9) (.t 16)),none⟩] [0,1,2,7,9,11,12,13])
 (.draw 6 [mv_ 17 7,mv_ 18 2,po_ 19 (.load true 20 (.t 9)),so_ 20 (.callv (.t 18) [.t 19]),po_ 21 (.gen (.look (.arr 20) (.val (.int .i64 ((0:Nat):Int))) false) [.t 17,.t 20]),po_ 22 (.bin 3 .add (.t 21) (ci_ 1)),so_ 23 (.ment (.arr 20) (.val (.int .i64 ((0:Nat):Int))) (.t 17) (.t 20)),po_ 24 (.ext 1 (.t 23)),⟨none,.s (.mest (.t 17) (.t 24) (.t 22)),none⟩] [0,1,2,7,11,12,13])))
 (.ops [po_ 25 (.bin 3 .add (.t 13) (ci_ 1)),mv_ 13 25] [0,1,2,7,11,12,13])
def AAY:AyC := .seq (.cond (.t 14)
 (.skip)
 (.exit 0))
 AA1
def AAZ:AyC := .seq (.ops [po_ 14 (.bin 3 .lss (.t 13) (.t 12))] [0,1,2,7,11,12,13,14])
 AAY
def AAX:AyC := .block 0 (.loop [0,1,2,7,11,12,13] AAZ)
def AAU:AyC := .seq (.ops [mv_ 26 7,po_ 27 (.gen .lenM [.t 26]),mv_ 28 0,po_ 29 (.lenV (.t 28)),po_ 30 (.bin 3 .eql (.t 27) (.t 29)),mv_ 31 30,⟨some 32,.p (.mov (.t 0)),some ⟨31,true⟩⟩,⟨some 33,.p (.lenV (.t 32)),some ⟨31,true⟩⟩,⟨some 34,.p (.mov (.t 1)),some ⟨31,true⟩⟩,⟨some 35,.p (.bin 3 .leq (.t 33) (.t 34)),some ⟨31,true⟩⟩,po_ 36 (.pick (.t 31) (.t 35) (.c (.bool false))),mv_ 6 36] [6])
 (.ret)
def AA3:AyC := .seq (.seq (.ops [mv_ 11 0,po_ 12 (.lenV (.t 11)),po_ 13 (.mov (ci_ 0))] [0,1,2,7,11,12,13])
 AAX)
 AAU
def AAV:AyC := .seq (.ops [so_ 10 (.mkm (.arr 20) none),mv_ 7 10] [0,1,2,7])
 AA3
def ABg:AyC := .seq (.ops [po_ 6 (.mov (.c (.bool false)))] [0,1,2])
 AAV
def ABi:List VR:=[.tmp 6]
theorem AFz:Tryz.f28.body.bind (trC Tryz.prog Tryz.f28.ntmps)=some (er ABg):=by kernel_rfl
theorem AFB:trR Tryz.prog Tryz.f28.results.toList=some ABi:=by kernel_rfl
def AC2:=Ayz AA1.eq_1
def Azf:=Ayz AAY.eq_1
def Azi:=Ayz AAZ.eq_1
def ACZ:=Ayz AAX.eq_1
def AzA:=Ayz AAU.eq_1
def ACX:=Ayz AA3.eq_1
def AC6:=Ayz AAV.eq_1
def AD5:=Ayz ABg.eq_1
theorem AzO {K:TV→Prop} {e:Env} {H:List Ob}:res ABi e H K=res [.tmp 6] e H K:=FI rfl
def AEN:=AzX 37 Tryz.func28 AFz AFB rfl
def AE5:AyC := .seq (.ops [so_ 1 (.box (.t 0)),so_ 2 (.alloc (.arr 20 1 [.val (.int .u8 ((0:Nat):Int)),.val (.int .u8 ((0:Nat):Int)),.val (.int .u8 ((0:Nat):Int)),.val (.int .u8 ((0:Nat):Int)),.val (.int .u8 ((0:Nat):Int)),.val (.int .u8 ((0:Nat):Int)),.val (.int .u8 ((0:Nat):Int)),.val (.int .u8 ((0:Nat):Int)),.val (.int .u8 ((0:Nat):Int)),.val (.int .u8 ((0:Nat):Int)),.val (.int .u8 ((0:Nat):Int)),.val (.int .u8 ((0:Nat):Int)),.val (.int .u8 ((0:Nat):Int)),.val (.int .u8 ((0:Nat):Int)),.val (.int .u8 ((0:Nat):Int)),.val (.int .u8 ((0:Nat):Int)),.val (.int .u8 ((0:Nat):Int)),.val (.int .u8 ((0:Nat):Int)),.val (.int .u8 ((0:Nat):Int)),.val (.int .u8 ((0:Nat):Int))]))] [1,2])
 (.seq (.ops [po_ 3 (.load true 20 (.t 1)),⟨none,.s (.store 20 (.t 2) (.t 3)),none⟩] [2])
 (.ret))
def AE2:List VR:=[.cell 2 true 20]
theorem ALl:Tryz.f26.body.bind (trC Tryz.prog Tryz.f26.ntmps)=some (er AE5):=by kernel_rfl
theorem ALG:trR Tryz.prog Tryz.f26.results.toList=some AE2:=by kernel_rfl
def AJ2:=Ayz AE5.eq_1
theorem AJR {K:TV→Prop} {e:Env} {H:List Ob}:res AE2 e H K=res [.cell 2 true 20] e H K:=FI rfl
def AL9:=(And.intro @AJ2 @AJR)
def AKI:=AzX 4 Tryz.func26 ALl ALG rfl
def AEA:AyC := .seq (.ops [po_ 27 (.bin 3 .lss (.t 26) (.t 25))] [1,6,24,25,26,27])
 (.seq (.cond (.t 27)
 (.skip)
 (.exit 0))
 (.seq (.block 1 (.seq (.ops [po_ 28 (.idxA 20 (.t 24) (.t 26)),po_ 29 (.load true 20 (.t 28)),so_ 9 (.alloc (.arr 20 1 [.val (.int .u8 ((0:Nat):Int)),.val (.int .u8 ((0:Nat):Int)),.val (.int .u8 ((0:Nat):Int)),.val (.int .u8 ((0:Nat):Int)),.val (.int .u8 ((0:Nat):Int)),.val (.int .u8 ((0:Nat):Int)),.val (.int .u8 ((0:Nat):Int)),.val (.int .u8 ((0:Nat):Int)),.val (.int .u8 ((0:Nat):Int)),.val (.int .u8 ((0:Nat):Int)),.val (.int .u8 ((0:Nat):Int)),.val (.int .u8 ((0:Nat):Int)),.val (.int .u8 ((0:Nat):Int)),.val (.int .u8 ((0:Nat):Int)),.val (.int .u8 ((0:Nat):Int)),.val (.int .u8 ((0:Nat):Int)),.val (.int .u8 ((0:Nat):Int)),.val (.int .u8 ((0:Nat):Int)),.val (.int .u8 ((0:Nat):Int)),.val (.int .u8 ((0:Nat):Int))])),⟨none,.s (.store 20 (.t 9) (.t 29)),none⟩] [1,6,9,24,25,26])
 (.ops [mv_ 30 6,po_ 31 (.load true 20 (.t 9)),so_ 32 (.call 30 [.t 31]),⟨some 33,.s (.bslice 1 2 (.val (.string (str []))) [⟨0,.c (.string (str [119,97,110,116]))⟩,⟨1,.t 32⟩]),none⟩,so_ 34 (.call 29 [.t 30,.t 33])] [1,6,24,25,26])))
 (.ops [po_ 35 (.bin 3 .add (.t 26) (ci_ 1)),mv_ 26 35] [1,6,24,25,26])))
def AEz:AyC := .seq (.ops [po_ 41 (.bin 3 .lss (.t 40) (.t 39))] [6,38,39,40,41])
 (.seq (.cond (.t 41)
 (.skip)
 (.exit 2))
 (.seq (.block 3 (.seq (.ops [po_ 42 (.idxA 20 (.t 38) (.t 40)),po_ 43 (.load true 20 (.t 42)),so_ 11 (.alloc (.arr 20 1 [.val (.int .u8 ((0:Nat):Int)),.val (.int .u8 ((0:Nat):Int)),.val (.int .u8 ((0:Nat):Int)),.val (.int .u8 ((0:Nat):Int)),.val (.int .u8 ((0:Nat):Int)),.val (.int .u8 ((0:Nat):Int)),.val (.int .u8 ((0:Nat):Int)),.val (.int .u8 ((0:Nat):Int)),.val (.int .u8 ((0:Nat):Int)),.val (.int .u8 ((0:Nat):Int)),.val (.int .u8 ((0:Nat):Int)),.val (.int .u8 ((0:Nat):Int)),.val (.int .u8 ((0:Nat):Int)),.val (.int .u8 ((0:Nat):Int)),.val (.int .u8 ((0:Nat):Int)),.val (.int .u8 ((0:Nat):Int)),.val (.int .u8 ((0:Nat):Int)),.val (.int .u8 ((0:Nat):Int)),.val (.int .u8 ((0:Nat):Int)),.val (.int .u8 ((0:Nat):Int))])),⟨none,.s (.store 20 (.t 11) (.t 43)),none⟩] [6,11,38,39,40])
 (.ops [mv_ 44 6,po_ 45 (.load true 20 (.t 11)),so_ 46 (.call 30 [.t 45]),⟨some 47,.s (.bslice 1 2 (.val (.string (str []))) [⟨0,.c (.string (str [104,97,118,101]))⟩,⟨1,.t 46⟩]),none⟩,so_ 48 (.call 29 [.t 44,.t 47])] [6,38,39,40])))
 (.ops [po_ 49 (.bin 3 .add (.t 40) (ci_ 1)),mv_ 40 49] [6,38,39,40])))
def AED:AyC := .seq (.ops [mv_ 50 6,⟨some 51,.s (.bslice 1 1 (.val (.string (str []))) [⟨0,.c (.string (str [100,111,110,101]))⟩]),none⟩,so_ 52 (.call 29 [.t 50,.t 51])] [6])
 (.seq (.ops [mv_ 53 6,so_ 54 (.call 32 [.t 53]),po_ 55 (.ext 0 (.t 54)),po_ 56 (.ext 1 (.t 54)),mv_ 4 55,mv_ 5 56] [4,5])
 (.ret))
def ABm:AyC := .seq (.seq (.ops [mv_ 38 1,po_ 39 (.lenV (.t 38)),po_ 40 (.mov (ci_ 0))] [6,38,39,40])
 (.block 2 (.loop [6,38,39,40] AEz)))
 AED
def AD6:AyC := .seq (.ops [mv_ 36 6,so_ 37 (.call 31 [.t 36])] [1,6])
 ABm
def ABo:AyC := .seq (.seq (.ops [mv_ 24 0,po_ 25 (.lenV (.t 24)),po_ 26 (.mov (ci_ 0))] [1,6,24,25,26])
 (.block 0 (.loop [1,6,24,25,26] AEA)))
 AD6
def AEk:AyC := .seq (.ops [mv_ 14 6,mv_ 15 0,mv_ 16 7,so_ 17 (.call 28 [.t 15,.c (.int .i64 ((5000:Nat):Int)),.t 16]),mv_ 18 17,⟨some 19,.p (.mov (.t 1)),some ⟨18,true⟩⟩,⟨some 20,.p (.mov (.t 7)),some ⟨18,true⟩⟩,⟨some 21,.s (.call 28 [.t 19,.c (.int .i64 ((5000:Nat):Int)),.t 20]),some ⟨18,true⟩⟩,po_ 22 (.pick (.t 18) (.t 21) (.c (.bool false))),so_ 23 (.call 27 [.t 14,.t 22])] [0,1,6])
 ABo
def AEm:AyC := .seq (.ops [po_ 7 (.mov (.c (.func (.func 26) #[] #[])))] [0,1,6,7])
 AEk
def AD8:AyC := .seq (.ops [po_ 12 (.build [.val (.slice none 0 0),.val (.bool false)] [1,1] []),so_ 13 (.box (.t 12)),mv_ 6 13] [0,1,6])
 AEm
def AHc:AyC := .seq (.ops [po_ 4 (.mov (.c (.slice none 0 0))),po_ 5 (.mov (.c .nilIface))] [0,1])
 AD8
def ADm:List VR:=[.tmp 4,.tmp 5]
theorem AOv:Tryz.f7.body.bind (trC Tryz.prog Tryz.f7.ntmps)=some (er AHc):=by kernel_rfl
theorem AOo:trR Tryz.prog Tryz.f7.results.toList=some ADm:=by kernel_rfl
def ACR:=Ayz AEA.eq_1
def AC4:=Ayz AEz.eq_1
def AIf:=Ayz AED.eq_1
def AIn:=Ayz ABm.eq_1
def AJy:=Ayz AD6.eq_1
def AJm:=Ayz ABo.eq_1
def AIa:=Ayz AEk.eq_1
def AH2:=Ayz AEm.eq_1
def AJx:=Ayz AD8.eq_1
def AMb:=Ayz AHc.eq_1
theorem AEW {K:TV→Prop} {e:Env} {H:List Ob}:res ADm e H K=res [.tmp 4,.tmp 5] e H K:=FI rfl
def AM2:=AzX 57 Tryz.func7 AOv AOo rfl
def AFd:AyC := .draw 4 [mv_ 55 9,mv_ 56 9,po_ 57 (.nilc (.t 56)),po_ 58 (.load false 1 (.t 57)),po_ 59 (.load true 20 (.t 11)),⟨some 60,.s (.bslice 20 1 (.arr 20 1 [.val (.int .u8 ((0:Nat):Int)),.val (.int .u8 ((0:Nat):Int)),.val (.int .u8 ((0:Nat):Int)),.val (.int .u8 ((0:Nat):Int)),.val (.int .u8 ((0:Nat):Int)),.val (.int .u8 ((0:Nat):Int)),.val (.int .u8 ((0:Nat):Int)),.val (.int .u8 ((0:Nat):Int)),.val (.int .u8 ((0:Nat):Int)),.val (.int .u8 ((0:Nat):Int)),.val (.int .u8 ((0:Nat):Int)),.val (.int .u8 ((0:Nat):Int)),.val (.int .u8 ((0:Nat):Int)),.val (.int .u8 ((0:Nat):Int)),.val (.int .u8 ((0:Nat):Int)),.val (.int .u8 ((0:Nat):Int)),.val (.int .u8 ((0:Nat):Int)),.val (.int .u8 ((0:Nat):Int)),.val (.int .u8 ((0:Nat):Int)),.val (.int .u8 ((0:Nat):Int))]) [⟨0,.t 59⟩]),none⟩,so_ 61 (.app 20 20 67 (.t 58) (.t 60)),po_ 62 (.nilc (.t 55)),⟨none,.s (.store 1 (.t 62) (.t 61)),none⟩] [0,2,3,6,25,26,27]
def AFs:AyC := .seq (.ops [mv_ 47 8,po_ 48 (.idxA 1 (.t 47) (ci_ 1)),po_ 49 (.load false 1 (.t 48)),so_ 50 (.call 65 [.t 49]),mv_ 46 50,po_ 51 (.ext 0 (.t 46)),po_ 52 (.ext 1 (.t 46)),so_ 11 (.alloc (.arr 20 1 [.val (.int .u8 ((0:Nat):Int)),.val (.int .u8 ((0:Nat):Int)),.val (.int .u8 ((0:Nat):Int)),.val (.int .u8 ((0:Nat):Int)),.val (.int .u8 ((0:Nat):Int)),.val (.int .u8 ((0:Nat):Int)),.val (.int .u8 ((0:Nat):Int)),.val (.int .u8 ((0:Nat):Int)),.val (.int .u8 ((0:Nat):Int)),.val (.int .u8 ((0:Nat):Int)),.val (.int .u8 ((0:Nat):Int)),.val (.int .u8 ((0:Nat):Int)),.val (.int .u8 ((0:Nat):Int)),.val (.int .u8 ((0:Nat):Int)),.val (.int .u8 ((0:Nat):Int)),.val (.int .u8 ((0:Nat):Int)),.val (.int .u8 ((0:Nat):Int)),.val (.int .u8 ((0:Nat):Int)),.val (.int .u8 ((0:Nat):Int)),.val (.int .u8 ((0:Nat):Int))])),⟨none,.s (.store 20 (.t 11) (.t 51)),none⟩,mv_ 12 52] [0,2,3,6,9,11,12,25,26,27])
 (.seq (.ops [mv_ 53 12,po_ 54 (.eqN 1 (.t 53) (.c .nilIface) false)] [0,2,3,6,9,11,25,26,27,54])
 (.cond (.t 54)
 AFd
 (.skip)))
def AFh:AyC := .seq (.seq (.ops [mv_ 39 10,po_ 40 (.un .not (.t 39)),mv_ 41 40,⟨some 42,.p (.mov (.t 8)),some ⟨41,false⟩⟩,⟨some 43,.p (.lenV (.t 42)),some ⟨41,false⟩⟩,⟨some 44,.p (.bin 3 .neq (.t 43) (ci_ 2)),some ⟨41,false⟩⟩,po_ 45 (.pick (.t 41) (.c (.bool true)) (.t 44))] [0,2,3,6,8,9,25,26,27,45])
 (.cond (.t 45)
 (.exit 1)
 (.skip)))
 AFs
def AFg:AyC := .seq (.ops [mv_ 32 6,mv_ 33 8,po_ 34 (.idxA 1 (.t 33) (ci_ 0)),po_ 35 (.load false 1 (.t 34)),po_ 36 (.gen (.look .str (.val (.pointer none)) true) [.t 32,.t 35]),mv_ 31 36,po_ 37 (.ext 0 (.t 31)),po_ 38 (.ext 1 (.t 31)),mv_ 9 37,mv_ 10 38] [0,2,3,6,8,9,10,25,26,27])
 AFh
def AFf:AyC := .seq (.block 1 (.seq (.ops [po_ 29 (.idxA 1 (.t 25) (.t 27)),po_ 30 (.load false 1 (.t 29)),mv_ 8 30] [0,2,3,6,8,25,26,27])
 AFg))
 (.ops [po_ 63 (.bin 3 .add (.t 27) (ci_ 1)),mv_ 27 63] [0,2,3,6,25,26,27])
def AE0:AyC := .seq (.cond (.t 28)
 (.skip)
 (.exit 0))
 AFf
def AFk:AyC := .seq (.ops [po_ 28 (.bin 3 .lss (.t 27) (.t 26))] [0,2,3,6,25,26,27,28])
 AE0
def AFo:AyC := .block 0 (.ownB 3 [] 20 (.ownB 2 [] 20 (.loop [0,2,3,6,25,26,27] AFk)))
def AE7:AyC := .seq (.seq (.ops [mv_ 70 0,mv_ 71 13,mv_ 72 4,so_ 73 (.call 66 [.t 70,.t 71,.t 72]),mv_ 14 73] [2,3,14])
 (.seq (.ops [mv_ 74 14,po_ 75 (.eqN 1 (.t 74) (.c .nilIface) true)] [2,3,14,75])
 (.cond (.t 75)
 (.seq (.ops [mv_ 76 14,⟨none,.s (.store 1 (.t 2) (.c (.slice none 0 0))),none⟩,⟨none,.s (.store 1 (.t 3) (.c (.slice none 0 0))),none⟩,mv_ 4 76] [2,3,4])
  (.ret))
 (.skip))))
 (.seq (.ops [po_ 77 (.load false 1 (.t 2)),po_ 78 (.load false 1 (.t 3)),⟨none,.s (.store 1 (.t 2) (.t 77)),none⟩,⟨none,.s (.store 1 (.t 3) (.t 78)),none⟩,po_ 4 (.mov (.c .nilIface))] [2,3,4])
 (.ret))
def AEj:AyC := .seq (.ops [po_ 65 (.load false 1 (.t 2)),po_ 66 (.load false 1 (.t 3)),so_ 67 (.call 7 [.t 65,.t 66]),mv_ 64 67,po_ 68 (.ext 0 (.t 64)),po_ 69 (.ext 1 (.t 64)),mv_ 13 68,mv_ 4 69] [0,2,3,4,13])
 AE7
def AEs:AyC := .seq (.seq (.ops [mv_ 25 5,po_ 26 (.lenV (.t 25)),po_ 27 (.mov (ci_ 0))] [0,2,3,6,25,26,27])
 AFo)
 AEj
def AEE:AyC := .seq (.ops [so_ 23 (.mkm .str none),⟨none,.s (.mupd .str (.t 23) (.c (.string (str [119,97,110,116]))) (.t 2)),none⟩,⟨none,.s (.mupd .str (.t 23) (.c (.string (str [104,97,118,101]))) (.t 3)),none⟩,mv_ 24 23,mv_ 6 24] [0,2,3,5,6])
 AEs
def AEa:AyC := .seq (.seq (.ops [mv_ 20 4,po_ 21 (.eqN 1 (.t 20) (.c .nilIface) true)] [0,2,3,4,5,21])
 (.cond (.t 21)
 (.seq (.ops [mv_ 22 4,⟨none,.s (.store 1 (.t 2) (.c (.slice none 0 0))),none⟩,⟨none,.s (.store 1 (.t 3) (.c (.slice none 0 0))),none⟩,mv_ 4 22] [2,3,4])
  (.ret))
 (.skip)))
 AEE
def AEn:AyC := .seq (.ops [mv_ 16 0,so_ 17 (.call 64 [.t 16]),mv_ 15 17,po_ 18 (.ext 0 (.t 15)),po_ 19 (.ext 1 (.t 15)),mv_ 5 18,mv_ 4 19] [0,2,3,4,5])
 AEa
def AIU:AyC := .seq (.ops [so_ 2 (.alloc (.val (.slice none 0 0))),so_ 3 (.alloc (.val (.slice none 0 0))),po_ 4 (.mov (.c .nilIface))] [0,2,3])
 AEn
def AIV:List VR:=[.cell 2 false 1,.cell 3 false 1,.tmp 4]
theorem APB:Tryz.f37.body.bind (trC Tryz.prog Tryz.f37.ntmps)=some (er AIU):=by kernel_rfl
theorem APM:trR Tryz.prog Tryz.f37.results.toList=some AIV:=by kernel_rfl
def ADM:=Ayz AFd.eq_1
def ADG:=Ayz AFs.eq_1
def AzD:=Ayz AFh.eq_1
def AzF:=Ayz AFg.eq_1
def AzE:=Ayz AFf.eq_1
def Azu:=Ayz AE0.eq_1
def Azt:=Ayz AFk.eq_1
def AJQ:=Ayz AFo.eq_1
def ADA:=Ayz AE7.eq_1
def AID:=Ayz AEj.eq_1
def AIP:=Ayz AEs.eq_1
def AJt:=Ayz AEE.eq_1
def AC9:=Ayz AEa.eq_1
def AIZ:=Ayz AEn.eq_1
def ANm:=Ayz AIU.eq_1
theorem ABd {K:TV→Prop} {e:Env} {H:List Ob}:res AIV e H K=res [.cell 2 false 1,.cell 3 false 1,.tmp 4] e H K:=FI rfl
def AOC:=AzX 79 Tryz.func37 APB APM rfl
def ADK:AyC := .seq (.block 1 (.seq (.ops [mv_ 28 0,mv_ 29 9,po_ 30 (.idxA 20 (.t 28) (.t 29)),po_ 31 (.load true 20 (.t 30)),so_ 32 (.call 35 [.t 31]),po_ 33 (.bin 9 .add (.c (.string (str [119,97,110,116,32]))) (.t 32)),so_ 34 (.call 34 [.t 33]),mv_ 10 34] [0,1,8,9,10])
 (.ops [mv_ 35 8,mv_ 36 10,so_ 37 (.app 1 1 5 (.t 35) (.t 36)),mv_ 8 37] [0,1,8,9])))
 (.ops [mv_ 26 9,po_ 27 (.bin 3 .add (.t 26) (ci_ 1)),mv_ 9 27] [0,1,8,9])
def ADL:AyC := .seq (.seq (.ops [mv_ 22 9,mv_ 23 0,po_ 24 (.lenV (.t 23)),po_ 25 (.bin 3 .lss (.t 22) (.t 24))] [0,1,8,9,25])
 (.cond (.t 25)
 (.skip)
 (.exit 0)))
 ADK
def ADF:AyC := .block 0 (.own 8 1 (.loop [0,1,8,9] ADL))
def ADo:AyC := .seq (.block 3 (.seq (.ops [mv_ 46 1,mv_ 47 11,po_ 48 (.idxA 20 (.t 46) (.t 47)),po_ 49 (.load true 20 (.t 48)),so_ 50 (.call 35 [.t 49]),po_ 51 (.bin 9 .add (.c (.string (str [104,97,118,101,32]))) (.t 50)),so_ 52 (.call 34 [.t 51]),mv_ 12 52] [1,8,11,12])
 (.ops [mv_ 53 8,mv_ 54 12,so_ 55 (.app 1 1 5 (.t 53) (.t 54)),mv_ 8 55] [1,8,11])))
 (.ops [mv_ 44 11,po_ 45 (.bin 3 .add (.t 44) (ci_ 1)),mv_ 11 45] [1,8,11])
def ADx:AyC := .seq (.seq (.ops [mv_ 40 11,mv_ 41 1,po_ 42 (.lenV (.t 41)),po_ 43 (.bin 3 .lss (.t 40) (.t 42))] [1,8,11,43])
 (.cond (.t 43)
 (.skip)
 (.exit 2)))
 ADo
def ADw:AyC := .block 2 (.own 8 1 (.loop [1,8,11] ADx))
def ADy:AyC := .seq (.ops [so_ 56 (.call 34 [.c (.string (str [100,111,110,101]))]),mv_ 13 56] [8,13])
 (.seq (.ops [mv_ 57 8,mv_ 58 13,so_ 59 (.app 1 1 5 (.t 57) (.t 58)),mv_ 4 59,po_ 5 (.mov (ci_ 0))] [4,5])
 (.ret))
def ADr:AyC := .seq (.seq (.ops [po_ 11 (.mov (ci_ 0))] [1,8,11])
 ADw)
 ADy
def ADC:AyC := .seq (.ops [mv_ 38 8,so_ 39 (.appS 5 (.t 38) (.c (.string (str [48,48,48,48])))),mv_ 8 39] [1,8])
 ADr
def ACJ:AyC := .seq (.seq (.ops [po_ 9 (.mov (ci_ 0))] [0,1,8,9])
 ADF)
 ADC
def AC0:AyC := .seq (.ops [po_ 8 (.mov (.c (.slice none 0 0)))] [0,1,8])
 ACJ
def ACK:AyC := .seq (.seq (.ops [mv_ 18 6,mv_ 19 18,⟨some 20,.p (.mov (.t 7)),some ⟨19,false⟩⟩,po_ 21 (.pick (.t 19) (.c (.bool true)) (.t 20))] [0,1,21])
 (.cond (.t 21)
 (.seq (.ops [po_ 4 (.mov (.c (.slice none 0 0))),po_ 5 (.mov (ci_ 111))] [4,5])
  (.ret))
 (.skip)))
 AC0
def ACT:AyC := .seq (.ops [mv_ 16 1,so_ 17 (.call 33 [.t 16]),mv_ 7 17] [0,1,6,7])
 ACK
def ACV:AyC := .seq (.ops [mv_ 14 0,so_ 15 (.call 33 [.t 14]),mv_ 6 15] [0,1,6])
 ACT
def AFG:AyC := .seq (.ops [po_ 4 (.mov (.c (.slice none 0 0))),po_ 5 (.mov (ci_ 0))] [0,1])
 ACV
def ACB:List VR:=[.tmp 4,.tmp 5]
theorem AME:Tryz.f9.body.bind (trC Tryz.prog Tryz.f9.ntmps)=some (er AFG):=by kernel_rfl
theorem ANp:trR Tryz.prog Tryz.f9.results.toList=some ACB:=by kernel_rfl
def AHP:=Ayz ADK.eq_1
def AB6:=Ayz ADL.eq_1
def AHS:=Ayz ADF.eq_1
def AHK:=Ayz ADo.eq_1
def AB3:=Ayz ADx.eq_1
def AHN:=Ayz ADw.eq_1
def AHU:=Ayz ADy.eq_1
def AHV:=Ayz ADr.eq_1
def AHM:=Ayz ADC.eq_1
def AGD:=Ayz ACJ.eq_1
def AGQ:=Ayz AC0.eq_1
def AAJ:=Ayz ACK.eq_1
def AGM:=Ayz ACT.eq_1
def AGw:=Ayz ACV.eq_1
def AKP:=Ayz AFG.eq_1
theorem AEr {K:TV→Prop} {e:Env} {H:List Ob}:res ACB e H K=res [.tmp 4,.tmp 5] e H K:=FI rfl
def AMq:=AzX 60 Tryz.func9 AME ANp rfl
def AEB:AyC := .seq (.seq (.ops [mv_ 43 12,mv_ 44 43,⟨some 45,.p (.mov (.t 10)),some ⟨44,true⟩⟩,⟨some 46,.p (.idxA 1 (.t 45) (ci_ 0)),some ⟨44,true⟩⟩,⟨some 47,.p (.load false 1 (.t 46)),some ⟨44,true⟩⟩,⟨some 48,.p (.bin 9 .eql (.t 47) (.c (.string (str [119,97,110,116])))),some ⟨44,true⟩⟩,po_ 49 (.pick (.t 44) (.t 48) (.c (.bool false)))] [0,5,7,8,9,10,11,12,49])
 (.cond (.t 49)
 (.ops [mv_ 50 7,po_ 51 (.load true 20 (.t 11)),⟨some 52,.s (.bslice 20 1 (.arr 20 1 [.val (.int .u8 ((0:Nat):Int)),.val (.int .u8 ((0:Nat):Int)),.val (.int .u8 ((0:Nat):Int)),.val (.int .u8 ((0:Nat):Int)),.val (.int .u8 ((0:Nat):Int)),.val (.int .u8 ((0:Nat):Int)),.val (.int .u8 ((0:Nat):Int)),.val (.int .u8 ((0:Nat):Int)),.val (.int .u8 ((0:Nat):Int)),.val (.int .u8 ((0:Nat):Int)),.val (.int .u8 ((0:Nat):Int)),.val (.int .u8 ((0:Nat):Int)),.val (.int .u8 ((0:Nat):Int)),.val (.int .u8 ((0:Nat):Int)),.val (.int .u8 ((0:Nat):Int)),.val (.int .u8 ((0:Nat):Int)),.val (.int .u8 ((0:Nat):Int)),.val (.int .u8 ((0:Nat):Int)),.val (.int .u8 ((0:Nat):Int)),.val (.int .u8 ((0:Nat):Int))]) [⟨0,.t 51⟩]),none⟩,so_ 53 (.app 20 20 66 (.t 50) (.t 52)),mv_ 7 53] [0,5,7,8,9,10,11,12])
 (.skip)))
 (.seq (.ops [mv_ 54 12,mv_ 55 54,⟨some 56,.p (.mov (.t 10)),some ⟨55,true⟩⟩,⟨some 57,.p (.idxA 1 (.t 56) (ci_ 0)),some ⟨55,true⟩⟩,⟨some 58,.p (.load false 1 (.t 57)),some ⟨55,true⟩⟩,⟨some 59,.p (.bin 9 .eql (.t 58) (.c (.string (str [104,97,118,101])))),some ⟨55,true⟩⟩,po_ 60 (.pick (.t 55) (.t 59) (.c (.bool false)))] [0,5,7,8,9,11,60])
 (.cond (.t 60)
 (.ops [mv_ 61 8,po_ 62 (.load true 20 (.t 11)),⟨some 63,.s (.bslice 20 1 (.arr 20 1 [.val (.int .u8 ((0:Nat):Int)),.val (.int .u8 ((0:Nat):Int)),.val (.int .u8 ((0:Nat):Int)),.val (.int .u8 ((0:Nat):Int)),.val (.int .u8 ((0:Nat):Int)),.val (.int .u8 ((0:Nat):Int)),.val (.int .u8 ((0:Nat):Int)),.val (.int .u8 ((0:Nat):Int)),.val (.int .u8 ((0:Nat):Int)),.val (.int .u8 ((0:Nat):Int)),.val (.int .u8 ((0:Nat):Int)),.val (.int .u8 ((0:Nat):Int)),.val (.int .u8 ((0:Nat):Int)),.val (.int .u8 ((0:Nat):Int)),.val (.int .u8 ((0:Nat):Int)),.val (.int .u8 ((0:Nat):Int)),.val (.int .u8 ((0:Nat):Int)),.val (.int .u8 ((0:Nat):Int)),.val (.int .u8 ((0:Nat):Int)),.val (.int .u8 ((0:Nat):Int))]) [⟨0,.t 62⟩]),none⟩,so_ 64 (.app 20 20 66 (.t 61) (.t 63)),mv_ 8 64] [0,5,7,8,9])
 (.skip)))
def AEx:AyC := .seq (.ops [mv_ 37 10,po_ 38 (.idxA 1 (.t 37) (ci_ 1)),po_ 39 (.load false 1 (.t 38)),so_ 40 (.call 69 [.t 39]),mv_ 36 40,po_ 41 (.ext 0 (.t 36)),po_ 42 (.ext 1 (.t 36)),so_ 11 (.alloc (.arr 20 1 [.val (.int .u8 ((0:Nat):Int)),.val (.int .u8 ((0:Nat):Int)),.val (.int .u8 ((0:Nat):Int)),.val (.int .u8 ((0:Nat):Int)),.val (.int .u8 ((0:Nat):Int)),.val (.int .u8 ((0:Nat):Int)),.val (.int .u8 ((0:Nat):Int)),.val (.int .u8 ((0:Nat):Int)),.val (.int .u8 ((0:Nat):Int)),.val (.int .u8 ((0:Nat):Int)),.val (.int .u8 ((0:Nat):Int)),.val (.int .u8 ((0:Nat):Int)),.val (.int .u8 ((0:Nat):Int)),.val (.int .u8 ((0:Nat):Int)),.val (.int .u8 ((0:Nat):Int)),.val (.int .u8 ((0:Nat):Int)),.val (.int .u8 ((0:Nat):Int)),.val (.int .u8 ((0:Nat):Int)),.val (.int .u8 ((0:Nat):Int)),.val (.int .u8 ((0:Nat):Int))])),⟨none,.s (.store 20 (.t 11) (.t 41)),none⟩,mv_ 12 42] [0,5,7,8,9,10,11,12])
 AEB
def AEF:AyC := .seq (.seq (.ops [mv_ 33 10,po_ 34 (.lenV (.t 33)),po_ 35 (.bin 3 .neq (.t 34) (ci_ 2))] [0,5,7,8,9,10,35])
 (.cond (.t 35)
 (.exit 1)
 (.skip)))
 AEx
def AEd:AyC := .seq (.block 1 (.seq (.ops [mv_ 28 5,mv_ 29 9,po_ 30 (.idxA 1 (.t 28) (.t 29)),po_ 31 (.load false 1 (.t 30)),so_ 32 (.call 68 [.t 31]),mv_ 10 32] [0,5,7,8,9,10])
 AEF))
 (.ops [mv_ 26 9,po_ 27 (.bin 3 .add (.t 26) (ci_ 1)),mv_ 9 27] [0,5,7,8,9])
def AEu:AyC := .seq (.seq (.ops [mv_ 22 9,mv_ 23 5,po_ 24 (.lenV (.t 23)),po_ 25 (.bin 3 .lss (.t 22) (.t 24))] [0,5,7,8,9,25])
 (.cond (.t 25)
 (.skip)
 (.exit 0)))
 AEd
def AEw:AyC := .block 0 (.own 8 20 (.own 7 20 (.loop [0,5,7,8,9] AEu)))
def AEl:AyC := .seq (.seq (.ops [mv_ 71 14,po_ 72 (.bin 3 .neq (.t 71) (ci_ 0)),mv_ 73 72,⟨some 74,.p (.mov (.t 13)),some ⟨73,false⟩⟩,⟨some 75,.p (.b2s (.t 74)),some ⟨73,false⟩⟩,⟨some 76,.p (.mov (.t 0)),some ⟨73,false⟩⟩,⟨some 77,.p (.b2s (.t 76)),some ⟨73,false⟩⟩,⟨some 78,.p (.bin 9 .neq (.t 75) (.t 77)),some ⟨73,false⟩⟩,po_ 79 (.pick (.t 73) (.c (.bool true)) (.t 78))] [7,8,79])
 (.cond (.t 79)
 (.seq (.ops [po_ 2 (.mov (.c (.slice none 0 0))),po_ 3 (.mov (.c (.slice none 0 0))),po_ 4 (.mov (ci_ 111))] [2,3,4])
  (.ret))
 (.skip)))
 (.seq (.ops [mv_ 80 7,mv_ 81 8,mv_ 2 80,mv_ 3 81,po_ 4 (.mov (ci_ 0))] [2,3,4])
 (.ret))
def AEt:AyC := .seq (.ops [mv_ 66 7,mv_ 67 8,so_ 68 (.call 9 [.t 66,.t 67]),mv_ 65 68,po_ 69 (.ext 0 (.t 65)),po_ 70 (.ext 1 (.t 65)),mv_ 13 69,mv_ 14 70] [0,7,8,13,14])
 AEl
def AEo:AyC := .seq (.seq (.ops [po_ 9 (.mov (ci_ 0))] [0,5,7,8,9])
 AEw)
 AEt
def ADE:AyC := .seq (.ops [po_ 8 (.mov (.c (.slice none 0 0)))] [0,5,7,8])
 AEo
def ADt:AyC := .seq (.ops [po_ 7 (.mov (.c (.slice none 0 0)))] [0,5,7])
 ADE
def ADu:AyC := .seq (.seq (.ops [mv_ 20 6,po_ 21 (.un .not (.t 20))] [0,5,21])
 (.cond (.t 21)
 (.seq (.ops [po_ 2 (.mov (.c (.slice none 0 0))),po_ 3 (.mov (.c (.slice none 0 0))),po_ 4 (.mov (ci_ 110))] [2,3,4])
  (.ret))
 (.skip)))
 ADt
def ADO:AyC := .seq (.ops [mv_ 16 0,so_ 17 (.call 67 [.t 16]),mv_ 15 17,po_ 18 (.ext 0 (.t 15)),po_ 19 (.ext 1 (.t 15)),mv_ 5 18,mv_ 6 19] [0,5,6])
 ADu
def AHo:AyC := .seq (.ops [po_ 2 (.mov (.c (.slice none 0 0))),po_ 3 (.mov (.c (.slice none 0 0))),po_ 4 (.mov (ci_ 0))] [0])
 ADO
def AHD:List VR:=[.tmp 2,.tmp 3,.tmp 4]
theorem AOJ:Tryz.f38.body.bind (trC Tryz.prog Tryz.f38.ntmps)=some (er AHo):=by kernel_rfl
theorem AOA:trR Tryz.prog Tryz.f38.results.toList=some AHD:=by kernel_rfl
def AzY:=Ayz AEB.eq_1
def AIY:=Ayz AEx.eq_1
def ACM:=Ayz AEF.eq_1
def AH0:=Ayz AEd.eq_1
def ACS:=Ayz AEu.eq_1
def AJf:=Ayz AEw.eq_1
def ABc:=Ayz AEl.eq_1
def AIt:=Ayz AEt.eq_1
def AIR:=Ayz AEo.eq_1
def AHT:=Ayz ADE.eq_1
def AHQ:=Ayz ADt.eq_1
def AB8:=Ayz ADu.eq_1
def AHL:=Ayz ADO.eq_1
def ALJ:=Ayz AHo.eq_1
theorem AA4 {K:TV→Prop} {e:Env} {H:List Ob}:res AHD e H K=res [.tmp 2,.tmp 3,.tmp 4] e H K:=FI rfl
def AMO:=AzX 82 Tryz.func38 AOJ AOA rfl
def AG9:AyC := .seq (.block 3 (.seq (.draw 4 [mv_ 16 0,mv_ 17 3,po_ 18 (.idxA 20 (.t 16) (.t 17)),po_ 19 (.load true 20 (.t 18)),mv_ 20 0,mv_ 21 4,po_ 22 (.idxA 20 (.t 20) (.t 21)),po_ 23 (.load true 20 (.t 22)),po_ 24 (.gen (.eqA 20 false) [.t 19,.t 23])] [0,3,4,24])
 (.cond (.t 24)
 (.seq (.ops [po_ 2 (.mov (.c (.bool true)))] [2])
  (.ret))
 (.skip))))
 (.ops [mv_ 14 4,po_ 15 (.bin 3 .add (.t 14) (ci_ 1)),mv_ 4 15] [0,3,4])
def AHp:AyC := .seq (.seq (.ops [mv_ 11 4,mv_ 12 3,po_ 13 (.bin 3 .lss (.t 11) (.t 12))] [0,3,4,13])
 (.cond (.t 13)
 (.skip)
 (.exit 2)))
 AG9
def AGV:AyC := .block 2 (.loop [0,3,4] AHp)
def AHk:AyC := .ops [mv_ 9 3,po_ 10 (.bin 3 .add (.t 9) (ci_ 1)),mv_ 3 10] [0,3]
def AHl:AyC := .seq (.block 1 (.seq (.ops [po_ 4 (.mov (ci_ 0))] [0,3,4])
 AGV))
 AHk
def AG0:AyC := .seq (.seq (.ops [mv_ 5 3,mv_ 6 0,po_ 7 (.lenV (.t 6)),po_ 8 (.bin 3 .lss (.t 5) (.t 7))] [0,3,8])
 (.cond (.t 8)
 (.skip)
 (.exit 0)))
 AHl
def AHv:AyC := .block 0 (.loop [0,3] AG0)
def AHh:AyC := .seq (.ops [mv_ 25 0,po_ 26 (.lenV (.t 25)),po_ 27 (.bin 3 .gtr (.t 26) (ci_ 5000)),mv_ 2 27] [2])
 (.ret)
def AHG:AyC := .seq (.seq (.ops [po_ 3 (.mov (ci_ 0))] [0,3])
 AHv)
 AHh
def ALx:AyC := .seq (.ops [po_ 2 (.mov (.c (.bool false)))] [0])
 AHG
def ALf:List VR:=[.tmp 2]
theorem ARF:Tryz.f33.body.bind (trC Tryz.prog Tryz.f33.ntmps)=some (er ALx):=by kernel_rfl
theorem ASl:trR Tryz.prog Tryz.f33.results.toList=some ALf:=by kernel_rfl
def AFi:=Ayz AG9.eq_1
def ABP:=Ayz AHp.eq_1
def AMc:=Ayz AGV.eq_1
def ALs:=Ayz AHk.eq_1
def ALT:=Ayz AHl.eq_1
def ABW:=Ayz AG0.eq_1
def ALN:=Ayz AHv.eq_1
def AFq:=Ayz AHh.eq_1
def ALV:=Ayz AHG.eq_1
def APC:=Ayz ALx.eq_1
theorem AEh {K:TV→Prop} {e:Env} {H:List Ob}:res ALf e H K=res [.tmp 2] e H K:=FI rfl
def AP5:=AzX 28 Tryz.func33 ARF ASl rfl
def ADQ:AyC := .seq (.ops [mv_ 60 14,mv_ 61 60,⟨some 62,.p (.mov (.t 7)),some ⟨61,true⟩⟩,⟨some 63,.p (.lenV (.t 62)),some ⟨61,true⟩⟩,⟨some 64,.p (.bin 3 .eql (.t 63) (ci_ 0)),some ⟨61,true⟩⟩,po_ 65 (.pick (.t 61) (.t 64) (.c (.bool false))),mv_ 6 65] [6])
 (.ret)
def ADp:AyC := .seq (.seq (.ops [mv_ 58 12,po_ 59 (.bin 3 .neq (.t 58) (ci_ 0))] [7,14,59])
 (.cond (.t 59)
 ADQ
 (.skip)))
 (.seq (.ops [mv_ 66 7,so_ 67 (.call 12 [.t 66]),mv_ 15 67] [14,15])
 (.seq (.ops [mv_ 68 14,mv_ 69 68,⟨some 70,.p (.mov (.t 15)),some ⟨69,true⟩⟩,po_ 71 (.pick (.t 69) (.t 70) (.c (.bool false))),mv_ 6 71] [6])
 (.ret)))
def ADI:AyC := .seq (.ops [mv_ 56 2,so_ 57 (.call 12 [.t 56]),mv_ 14 57] [7,12,14])
 ADp
def ADn:AyC := .seq (.seq (.ops [mv_ 48 13,po_ 49 (.un .not (.t 48)),mv_ 50 49,⟨some 51,.p (.mov (.t 8)),some ⟨50,false⟩⟩,⟨some 52,.s (.call 11 [.t 51]),some ⟨50,false⟩⟩,⟨some 53,.p (.mov (.t 12)),some ⟨50,false⟩⟩,⟨some 54,.p (.bin 3 .neq (.t 52) (.t 53)),some ⟨50,false⟩⟩,po_ 55 (.pick (.t 50) (.c (.bool true)) (.t 54))] [2,7,12,55])
 (.cond (.t 55)
 (.seq (.ops [po_ 6 (.mov (.c (.bool false)))] [6])
  (.ret))
 (.skip)))
 ADI
def ADz:AyC := .seq (.ops [mv_ 45 7,mv_ 46 11,so_ 47 (.call 10 [.t 45,.t 46]),mv_ 13 47] [2,7,8,12,13])
 ADn
def ADB:AyC := .seq (.ops [mv_ 40 9,mv_ 41 10,so_ 42 (.call 9 [.t 40,.t 41]),mv_ 39 42,po_ 43 (.ext 0 (.t 39)),po_ 44 (.ext 1 (.t 39)),mv_ 11 43,mv_ 12 44] [2,7,8,11,12])
 ADz
def ADq:AyC := .seq (.ops [mv_ 37 1,so_ 38 (.call 8 [.t 37]),mv_ 10 38] [2,7,8,9,10])
 ADB
def ADH:AyC := .seq (.ops [mv_ 35 0,so_ 36 (.call 8 [.t 35]),mv_ 9 36] [1,2,7,8,9])
 ADq
def ADJ:AyC := .seq (.ops [mv_ 30 0,mv_ 31 1,so_ 32 (.call 7 [.t 30,.t 31]),mv_ 29 32,po_ 33 (.ext 0 (.t 29)),po_ 34 (.ext 1 (.t 29)),mv_ 7 33,mv_ 8 34] [0,1,2,7,8])
 ADH
def ADa:AyC := .seq (.seq (.ops [mv_ 16 0,po_ 17 (.lenV (.t 16)),po_ 18 (.bin 3 .gtr (.t 17) (ci_ 60)),mv_ 19 18,⟨some 20,.p (.mov (.t 1)),some ⟨19,false⟩⟩,⟨some 21,.p (.lenV (.t 20)),some ⟨19,false⟩⟩,⟨some 22,.p (.bin 3 .gtr (.t 21) (ci_ 60)),some ⟨19,false⟩⟩,po_ 23 (.pick (.t 19) (.c (.bool true)) (.t 22)),mv_ 24 23,⟨some 25,.p (.mov (.t 2)),some ⟨24,false⟩⟩,⟨some 26,.p (.lenV (.t 25)),some ⟨24,false⟩⟩,⟨some 27,.p (.bin 3 .gtr (.t 26) (ci_ 6000)),some ⟨24,false⟩⟩,po_ 28 (.pick (.t 24) (.c (.bool true)) (.t 27))] [0,1,2,28])
 (.cond (.t 28)
 (.seq (.ops [po_ 6 (.mov (.c (.bool true)))] [6])
  (.ret))
 (.skip)))
 ADJ
def AFO:AyC := .seq (.ops [po_ 6 (.mov (.c (.bool false)))] [0,1,2])
 ADa
def AFS:List VR:=[.tmp 6]
theorem ANA:Tryz.f3.body.bind (trC Tryz.prog Tryz.f3.ntmps)=some (er AFO):=by kernel_rfl
theorem AMx:trR Tryz.prog Tryz.f3.results.toList=some AFS:=by kernel_rfl
def AHO:=Ayz ADQ.eq_1
def AB9:=Ayz ADp.eq_1
def AB0:=Ayz ADI.eq_1
def ACb:=Ayz ADn.eq_1
def AB7:=Ayz ADz.eq_1
def AB4:=Ayz ADB.eq_1
def ACc:=Ayz ADq.eq_1
def ACe:=Ayz ADH.eq_1
def AHX:=Ayz ADJ.eq_1
def AGO:=Ayz ADa.eq_1
def AKZ:=Ayz AFO.eq_1
theorem AzN {K:TV→Prop} {e:Env} {H:List Ob}:res AFS e H K=res [.tmp 6] e H K:=FI rfl
def ALW:=AzX 72 Tryz.func3 ANA AMx rfl
def AHC:AyC := .seq (.ops [mv_ 36 7,mv_ 37 36,⟨some 38,.p (.mov (.t 11)),some ⟨37,true⟩⟩,po_ 39 (.pick (.t 37) (.t 38) (.c (.bool false))),mv_ 40 39,⟨some 41,.p (.mov (.t 12)),some ⟨40,true⟩⟩,po_ 42 (.pick (.t 40) (.t 41) (.c (.bool false))),mv_ 43 42,⟨some 44,.p (.mov (.t 6)),some ⟨43,true⟩⟩,⟨some 45,.s (.call 11 [.t 44]),some ⟨43,true⟩⟩,⟨some 46,.p (.mov (.t 10)),some ⟨43,true⟩⟩,⟨some 47,.p (.bin 3 .eql (.t 45) (.t 46)),some ⟨43,true⟩⟩,po_ 48 (.pick (.t 43) (.t 47) (.c (.bool false))),mv_ 2 48] [2])
 (.ret)
def AHf:AyC := .seq (.ops [mv_ 33 5,mv_ 34 9,so_ 35 (.call 39 [.t 33,.t 34]),mv_ 12 35] [6,7,10,11,12])
 AHC
def AHi:AyC := .seq (.ops [mv_ 30 4,mv_ 31 8,so_ 32 (.call 39 [.t 30,.t 31]),mv_ 11 32] [5,6,7,9,10,11])
 AHf
def AHF:AyC := .seq (.ops [mv_ 25 0,so_ 26 (.call 38 [.t 25]),mv_ 24 26,po_ 27 (.ext 0 (.t 24)),po_ 28 (.ext 1 (.t 24)),po_ 29 (.ext 2 (.t 24)),mv_ 8 27,mv_ 9 28,mv_ 10 29] [4,5,6,7,8,9,10])
 AHi
def AHn:AyC := .seq (.ops [mv_ 21 3,mv_ 22 0,so_ 23 (.call 19 [.t 21,.t 22]),mv_ 7 23] [0,4,5,6,7])
 AHF
def AHg:AyC := .seq (.ops [mv_ 16 3,so_ 17 (.call 37 [.t 16]),mv_ 15 17,po_ 18 (.ext 0 (.t 15)),po_ 19 (.ext 1 (.t 15)),po_ 20 (.ext 2 (.t 15)),mv_ 4 18,mv_ 5 19,mv_ 6 20] [0,3,4,5,6])
 AHn
def AG6:AyC := .seq (.ops [mv_ 13 0,so_ 14 (.call 17 [.t 13]),mv_ 3 14] [0,3])
 AHg
def AMd:AyC := .seq (.ops [po_ 2 (.mov (.c (.bool false)))] [0])
 AG6
def ALk:List VR:=[.tmp 2]
theorem ARl:Tryz.f12.body.bind (trC Tryz.prog Tryz.f12.ntmps)=some (er AMd):=by kernel_rfl
theorem ARQ:trR Tryz.prog Tryz.f12.results.toList=some ALk:=by kernel_rfl
def AFp:=Ayz AHC.eq_1
def AFa:=Ayz AHf.eq_1
def AFb:=Ayz AHi.eq_1
def AFe:=Ayz AHF.eq_1
def AEZ:=Ayz AHn.eq_1
def AMa:=Ayz AHg.eq_1
def ALi:=Ayz AG6.eq_1
def APp:=Ayz AMd.eq_1
theorem AI0 {K:TV→Prop} {e:Env} {H:List Ob}:res ALk e H K=res [.tmp 2] e H K:=FI rfl
def AQh:=AzX 49 Tryz.func12 ARl ARQ rfl
def AGX:AyC := .seq (.seq (.ops [mv_ 5 4,mv_ 6 0,po_ 7 (.lenV (.t 6)),po_ 8 (.bin 3 .lss (.t 5) (.t 7))] [0,3,4,8])
 (.cond (.t 8)
 (.skip)
 (.exit 0)))
 (.seq (.block 1 (.ops [mv_ 11 3,mv_ 12 0,mv_ 13 4,po_ 14 (.idxA 20 (.t 12) (.t 13)),po_ 15 (.load true 20 (.t 14)),⟨some 16,.s (.bslice 20 1 (.arr 20 1 [.val (.int .u8 ((0:Nat):Int)),.val (.int .u8 ((0:Nat):Int)),.val (.int .u8 ((0:Nat):Int)),.val (.int .u8 ((0:Nat):Int)),.val (.int .u8 ((0:Nat):Int)),.val (.int .u8 ((0:Nat):Int)),.val (.int .u8 ((0:Nat):Int)),.val (.int .u8 ((0:Nat):Int)),.val (.int .u8 ((0:Nat):Int)),.val (.int .u8 ((0:Nat):Int)),.val (.int .u8 ((0:Nat):Int)),.val (.int .u8 ((0:Nat):Int)),.val (.int .u8 ((0:Nat):Int)),.val (.int .u8 ((0:Nat):Int)),.val (.int .u8 ((0:Nat):Int)),.val (.int .u8 ((0:Nat):Int)),.val (.int .u8 ((0:Nat):Int)),.val (.int .u8 ((0:Nat):Int)),.val (.int .u8 ((0:Nat):Int)),.val (.int .u8 ((0:Nat):Int))]) [⟨0,.t 15⟩]),none⟩,so_ 17 (.app 20 20 66 (.t 11) (.t 16)),mv_ 3 17] [0,3,4]))
 (.ops [mv_ 9 4,po_ 10 (.bin 3 .add (.t 9) (ci_ 1)),mv_ 4 10] [0,3,4]))
def AG7:AyC := .block 0 (.own 3 20 (.loop [0,3,4] AGX))
def AHa:AyC := .seq (.ops [mv_ 18 3,mv_ 2 18] [2])
 (.ret)
def AHt:AyC := .seq (.seq (.ops [po_ 4 (.mov (ci_ 0))] [0,3,4])
 AG7)
 AHa
def AG8:AyC := .seq (.ops [po_ 3 (.mov (.c (.slice none 0 0)))] [0,3])
 AHt
def AMj:AyC := .seq (.ops [po_ 2 (.mov (.c (.slice none 0 0)))] [0])
 AG8
def ALo:List VR:=[.tmp 2]
theorem ARx:Tryz.f8.body.bind (trC Tryz.prog Tryz.f8.ntmps)=some (er AMj):=by kernel_rfl
theorem ARi:trR Tryz.prog Tryz.f8.results.toList=some ALo:=by kernel_rfl
def AFm:=Ayz AGX.eq_1
def ALD:=Ayz AG7.eq_1
def ALS:=Ayz AHa.eq_1
def ALM:=Ayz AHt.eq_1
def AMp:=Ayz AG8.eq_1
def APW:=Ayz AMj.eq_1
theorem AO5 {K:TV→Prop} {e:Env} {H:List Ob}:res ALo e H K=res [.tmp 2] e H K:=FI rfl
def AQj:=AzX 19 Tryz.func8 ARx ARi rfl
def AFr:AyC := .seq (.block 1 (.seq (.draw 4 [mv_ 17 0,mv_ 18 5,po_ 19 (.idxA 20 (.t 17) (.t 18)),po_ 20 (.load true 20 (.t 19)),mv_ 21 1,mv_ 22 5,po_ 23 (.idxA 20 (.t 21) (.t 22)),po_ 24 (.load true 20 (.t 23)),po_ 25 (.gen (.eqA 20 true) [.t 20,.t 24])] [0,1,5,25])
 (.cond (.t 25)
 (.seq (.ops [po_ 4 (.mov (.c (.bool false)))] [4])
  (.ret))
 (.skip))))
 (.ops [mv_ 15 5,po_ 16 (.bin 3 .add (.t 15) (ci_ 1)),mv_ 5 16] [0,1,5])
def AEV:AyC := .seq (.seq (.ops [mv_ 11 5,mv_ 12 0,po_ 13 (.lenV (.t 12)),po_ 14 (.bin 3 .lss (.t 11) (.t 13))] [0,1,5,14])
 (.cond (.t 14)
 (.skip)
 (.exit 0)))
 AFr
def AES:AyC := .block 0 (.loop [0,1,5] AEV)
def AE1:AyC := .seq (.ops [po_ 4 (.mov (.c (.bool true)))] [4])
 (.ret)
def AEU:AyC := .seq (.seq (.ops [po_ 5 (.mov (ci_ 0))] [0,1,5])
 AES)
 AE1
def AER:AyC := .seq (.seq (.ops [mv_ 6 0,po_ 7 (.lenV (.t 6)),mv_ 8 1,po_ 9 (.lenV (.t 8)),po_ 10 (.bin 3 .neq (.t 7) (.t 9))] [0,1,10])
 (.cond (.t 10)
 (.seq (.ops [po_ 4 (.mov (.c (.bool false)))] [4])
  (.ret))
 (.skip)))
 AEU
def AJu:AyC := .seq (.ops [po_ 4 (.mov (.c (.bool false)))] [0,1])
 AER
def AIX:List VR:=[.tmp 4]
theorem APd:Tryz.f39.body.bind (trC Tryz.prog Tryz.f39.ntmps)=some (er AJu):=by kernel_rfl
theorem APF:trR Tryz.prog Tryz.f39.results.toList=some AIX:=by kernel_rfl
def AJ0:=Ayz AFr.eq_1
def ADs:=Ayz AEV.eq_1
def AJW:=Ayz AES.eq_1
def AJU:=Ayz AE1.eq_1
def AJ1:=Ayz AEU.eq_1
def AJ5:=Ayz AER.eq_1
def AMT:=Ayz AJu.eq_1
theorem AMY {K:TV→Prop} {e:Env} {H:List Ob}:res AIX e H K=res [.tmp 4] e H K:=FI rfl
def AOK:=AzX 26 Tryz.func39 APd APF rfl
end
section
open Go.RowKit
section
variable [AyZ] {P:Program} {PP:Value→List Ob→Prop} {e:Env} {H:List Ob} {r:List VO} {Ss:SsT}
theorem Bb2 {d:Nat} {f:Opd} {args:List Opd} {K:Env→Prop}:vq P (⟨some d,.s (.callv f args),none⟩::r) K e H=vex fun x=>sop P (.callv f args) e H (fun y H'=>y=x∧H'=H)∧vq P r K ((d,x)::e) H:=FI rfl
end
theorem AQu {H T:List Ob} {i j:Nat} {o:Ob} (h:i<H.length) (hne:i≠j):(H.set j o++T)[i]?=H[i]?:=by rw [List.getElem?_append_left (by simpa using h),List.getElem?_set_ne (Ne.symm hne)]
theorem APc {H T:List Ob} {j:Nat} {o:Ob} (h:j<H.length):(H.set j o++T)[j]?=some o:=by rw [List.getElem?_append_left (by simpa using h),List.getElem?_set_self h]
theorem ga {H T:List Ob} {i:Nat} (h:i<H.length):(H++T)[i]?=H[i]?:=List.getElem?_append_left h
theorem A6v (y z:TV):List.take 1 ((List.replicate 1 z).set 0 y)=[y]:=by simp
end
section
open Go.RowKit
variable [AyZ]
theorem BbW (x:List UInt8) (h:x.length=20):Azk Tryz.prog 26 [.arr 20 1 (x.map by8)] (fun r=>r = .arr 20 1 (x.map by8)):=by
 refine AyI.toPureV (AKI (by simp) ?_)
 have h1:(x.map by8).length=20:=by rw [List.length_map]; exact h
 simp -dsimp (disch:=first | assumption | omega | (simp only [AyA];try omega)) only [↓AyF,AyB,AyE,AyD,eq_self,Nat.reduceEqDiff,↓reduceIte,↓AL9]
theorem A7w (l:AEM) (h20:AAA l) (hl:l.length≤1000000):Azk Tryz.prog 28 [.sl 20 (l.map idW),i64 ((5000:Nat):Int),.val (.func (.func 26) #[] #[])] (fun r=>r=tb (decide (l.Nodup∧l.length≤5000))):=by
 refine AyI.toPureV (AEN (by simp) ?_)
 generalize hB:decide (l.Nodup∧l.length≤5000)=B
 simp -dsimp (disch:=first | assumption | omega | (simp only [AyA];try omega)) only [↓AyF,AyB,AyE,AyD,eq_self,Nat.reduceEqDiff,↓reduceIte,Nat.reduceAdd,reduceCtorEq,↓AD5,↓AC6,↓ACX,↓ACZ]
 refine AAW (fun q e H=>∃ (i:Nat) (es:List (List UInt8×TV)),q=l.length - i∧i≤l.length∧A3k es (l.take i)∧H[0]?=some (.mpo (.arr 20) es)∧e=[(0,.sl 20 (l.map idW)),(1,i64 ((5000:Nat):Int)),(2,.val (.func (.func 26) #[] #[])),(7,.mp 0 0),(11,.sl 20 (l.map idW)),(12,i64 (l.length:Int)),(13,i64 (i:Int))]) l.length ?_ ?_
 ·exact ⟨0,[],rfl,Nat.zero_le _,A3k.nil,rfl,by simp [forget,get]⟩
 rintro q e H ⟨i,es,rfl,hi,hS,hH,rfl⟩
 have hHl:0<H.length:=(List.getElem?_eq_some_iff.1 hH).1
 by_cases hil:i<l.length
 case neg =>
  have hi2:i=l.length:=by omega
  rw [List.take_of_length_le (by omega)] at hS
  have h1:=hS.nd
  have h2:=hS.le
  by_cases he:es.length=l.length
  ·by_cases h5:l.length≤5000
   ·simp -dsimp (disch:=first | assumption | omega | (simp only [AyA];try omega)) only [↓AyF,AyB,AyE,AyD,eq_self,Nat.reduceEqDiff,↓reduceIte,reduceCtorEq,hH,he,↓Azi,↓Azf,↓AzA,↓AzO]
    rw [←hB,decide_eq_true (show l.Nodup∧l.length≤5000 from ⟨h1.1 he,h5⟩),decide_eq_true h5]
   ·simp -dsimp (disch:=first | assumption | omega | (simp only [AyA];try omega)) only [↓AyF,AyB,AyE,AyD,eq_self,Nat.reduceEqDiff,↓reduceIte,reduceCtorEq,hH,he,h5,↓Azi,↓Azf,↓AzA,↓AzO]
    rw [←hB,decide_eq_false fun h=>h5 h.2]
  ·simp -dsimp (disch:=first | assumption | omega | (simp only [AyA];try omega)) only [↓AyF,AyB,AyE,AyD,eq_self,Nat.reduceEqDiff,↓reduceIte,reduceCtorEq,hH,he,↓Azi,↓Azf,↓AzA,↓AzO]
   rw [←hB,decide_eq_false fun h=>he (h1.2 h.1)]
 obtain ⟨x,hr⟩:∃ r,l[i]?=some r:=⟨_,List.getElem?_eq_getElem hil⟩
 have hx20:=h20 _ (List.mem_of_getElem? hr)
 have hx':(x.map by8).length=20:=by rw [List.length_map]; exact hx20
 have hg:(l.map idW)[i]?=some (.arr 20 1 (x.map by8)):=by rw [List.getElem?_map,hr]; rfl
 have hcl:=hS.cnt x
 have hadd:=hS.add x
 have hts:l.take (i+1)=l.take i++[x]:=by rw [List.take_add_one,hr]; rfl
 rw [←hts] at hadd
 have hcount:(l.take i).count x≤i:=by have:=List.count_le_length (a:=x) (l:=l.take i); rw [List.length_take] at this; omega
 generalize (l.take i).count x=c at *
 simp -dsimp (disch:=first | assumption | omega | (simp only [AyA];try omega)) only [↓AyF,AyB,AyE,AyD,eq_self,Nat.reduceEqDiff,↓reduceIte,reduceCtorEq,↓Bb2,hg,↓Azi,↓Azf,↓AC2]
 refine ⟨.arr 20 1 (x.map by8),?_,?_⟩
 ·simp -dsimp (disch:=first | assumption | omega | (simp only [AyA];try omega)) only [↓AyF,AyB,AyE,AyD,eq_self,Nat.reduceEqDiff,↓reduceIte]
  exact ⟨by kernel_rfl,APi ((BbW x hx20).calls rfl fun r hr=>⟨hr,rfl⟩)⟩
 have hA:∀ T:List Ob,(H++T)[0]?=some (.mpo (.arr 20) es):=fun T=>by rw [List.getElem?_append_left hHl]; exact hH
 simp -dsimp (disch:=first | assumption | omega | (simp only [AyA];try omega)) only [↓AyF,AyB,AyE,AyD,eq_self,Nat.reduceEqDiff,↓reduceIte,reduceCtorEq,hA,hcl,AXw,AVE]
 refine AyP (l.length - (i+1)) (by omega) (by simp) ⟨i+1,_,rfl,by omega,hadd,?_,by simp [forget,get]⟩
 first
  | (rw [APc (by simpa using hHl)])
  | (simp [hHl])
end
section
open Go.RowKit
variable [AyZ]
def ATw (a b:AEM):Prop:=(a.length≤15000∧b.length≤15000)∧AAA a∧AAA b
def A5N (a b:AEM) (r:TV):Prop:=(AN6 a b→r = .tup [slB (waB a b),.val .nilIface])∧(¬ AN6 a b→r = .tup [AFl,eno 111])
theorem AOb {l:AEM} {i:Nat} {x:List UInt8} (h:l[i]?=some x):(l.map idW)[i]?=some (.arr 20 1 (x.map by8)):=by rw [List.getElem?_map,h]; rfl
theorem AFK {l:AEM} {i:Nat} {x:List UInt8} (h:l[i]?=some x):l.take (i+1)=l.take i++[x]:=by rw [List.take_add_one,h]; rfl
theorem A9K {a b:AEM} (hf:ATw a b) {Q:VEx→Env→List Ob→Prop} {E:Env} {H:List Ob} (ht:TSt 0 0 H (AJJ (a.map AKs)++ABT) (AN6 a b) (15000*3000015+4))
  (hQ:∀ x y H',AUZ H' (waB a b) (AN6 a b) x y→Q .ret [(4,x),(5,y)] H') :
  vwp Tryz.prog ABm Q ((1,.sl 20 (b.map idW))::(6,.op 0 0 [])::E) H:=by
 obtain ⟨⟨f1,f2⟩,h1,h2⟩:=hf
 simp -dsimp (disch:=first | assumption | omega | (simp only [AyA];try omega)) only [↓AyF,AyB,AyE,AyD,eq_self,Nat.reduceEqDiff,↓reduceIte,↓AIn]
 refine AAW (fun q e G=>∃ (i:Nat),q=b.length - i∧i≤b.length∧TSt 0 0 G (AJJ (a.map AKs)++ABT++AJJ ((b.take i).map AM6)) (AN6 a b) (15000*3000015+4+i*3000015)∧H.length≤G.length∧e=[(6,.op 0 0 []),(38,.sl 20 (b.map idW)),(39,i64 (b.length:Int)),(40,i64 (i:Int))]) b.length ?_ ?_
 ·refine ⟨0,rfl,Nat.zero_le _,?_,Nat.le_refl _,by simp [forget,get]⟩
  have e:AJJ (a.map AKs)++ABT++AJJ ((b.take 0).map AM6)=AJJ (a.map AKs)++ABT:=by simp [AJJ]
  rw [e]
  exact ht.le (by omega)
 rintro q e G ⟨i,rfl,hi,hT,hGn,rfl⟩
 by_cases hil:i<b.length
 case neg =>
  have hi2:i=b.length:=by omega
  subst hi2
  rw [List.take_length] at hT
  simp -dsimp (disch:=first | assumption | omega | (simp only [AyA];try omega)) only [↓AyF,AyB,AyE,AyD,eq_self,Nat.reduceEqDiff,↓reduceIte,Nat.reduceLeDiff,↓AC4,↓AIf]
  have hcat:((List.replicate 1 (TV.val (Value.string (str [])))).set 0 (TV.val (Value.string (str [100,111,110,101]))))=([AKA]:List (List UInt8)).map ts:=rfl
  rw [hcat]
  refine APi (BaD (ws:=[AKA]) (hT.grow _) (by simp) (by simp) (by simp) (by rw [AJO]; simp [AKA]) (by omega) fun H3 n1 n2 n3 => ?_)
  simp -dsimp (disch:=first | assumption | omega | (simp only [AyA];try omega)) only [↓AyF,AyB,AyE,AyD,eq_self,Nat.reduceEqDiff,↓reduceIte]
  have e:AJJ (a.map AKs)++ABT++AJJ (b.map AM6)++Azb (AAO [AKA])=waB a b:=rfl
  rw [e] at n1
  refine A89 n1 (by unfold waB; simp [ABT]) fun x y hd => ?_
  simp -dsimp (disch:=first | assumption | omega | (simp only [AyA];try omega)) only [↓AyF,AyB,AyE,AyD,eq_self,Nat.reduceEqDiff,↓reduceIte]
  exact hQ x y H3 hd
 obtain ⟨x,hr⟩:∃ r,b[i]?=some r:=⟨_,List.getElem?_eq_getElem hil⟩
 have hx20:=h2 _ (List.mem_of_getElem? hr)
 have hx':(x.map by8).length=20:=by rw [List.length_map]; exact hx20
 have hg:=AOb hr
 simp -dsimp (disch:=first | assumption | omega | (simp only [AyA];try omega)) only [↓AyF,AyB,AyE,AyD,eq_self,Nat.reduceEqDiff,↓reduceIte,hg,↓AC4]
 refine (BbI x hx20).calls rfl fun r hr' => ?_
 subst hr'
 simp -dsimp (disch:=first | assumption | omega | (simp only [AyA];try omega)) only [↓AyF,AyB,AyE,AyD,eq_self,Nat.reduceEqDiff,↓reduceIte,Nat.reduceLeDiff]
 have hcat:(((List.replicate 2 (TV.val (Value.string (str [])))).set 0 (TV.val (Value.string (str [104,97,118,101])))).set 1 (TV.val (Value.string (str (Azq x)))))=(AM6 x).map ts:=rfl
 rw [hcat]
 have hTg:=(hT.grow [Ob.obj 0 (.arr 20 1 (x.map by8))]).grow [Ob.obj 0 (.arr 2 1 ((AM6 x).map ts))]
 refine APi (BaD (ws:=AM6 x) hTg (by simp [AM6]) (by simp [AM6]) (by simp [AM6]) (by unfold AM6; rw [AOT,AJO]; simp [AJl,AA5]; omega) (by omega) fun H3 n1 n2 n3 => ?_)
 simp -dsimp (disch:=first | assumption | omega | (simp only [AyA];try omega)) only [↓AyF,AyB,AyE,AyD,eq_self,Nat.reduceEqDiff,Nat.reduceMul,↓reduceIte,Nat.reduceAdd]
 simp only [List.length_append,List.length_singleton] at n3
 refine AyP (b.length - (i+1)) (by omega) (by omega) ⟨i+1,rfl,by omega,?_,by omega,by simp [forget,get]⟩
 rw [AFK hr,List.map_append,AOV,List.map_cons,List.map_nil,AOR,←List.append_assoc]
 exact n1.le (by omega)
theorem A67 {a b:AEM} (hf:ATw a b) {Q:VEx→Env→List Ob→Prop} {E:Env} {H:List Ob} (ht:TSt 0 0 H [] (AN6 a b) 0)
  (hQ:∀ x y H',AUZ H' (waB a b) (AN6 a b) x y→Q .ret [(4,x),(5,y)] H') :
  vwp Tryz.prog ABo Q ((0,.sl 20 (a.map idW))::(1,.sl 20 (b.map idW))::(6,.op 0 0 [])::E) H:=by
 have hf0:=hf
 obtain ⟨⟨f1,f2⟩,h1,h2⟩:=hf
 simp -dsimp (disch:=first | assumption | omega | (simp only [AyA];try omega)) only [↓AyF,AyB,AyE,AyD,eq_self,Nat.reduceEqDiff,↓reduceIte,reduceCtorEq,↓AJm]
 refine AAW (fun q e G=>∃ (i:Nat),q=a.length - i∧i≤a.length∧TSt 0 0 G (AJJ ((a.take i).map AKs)) (AN6 a b) (i*3000015)∧H.length≤G.length∧e=[(1,.sl 20 (b.map idW)),(6,.op 0 0 []),(24,.sl 20 (a.map idW)),(25,i64 (a.length:Int)),(26,i64 (i:Int))]) a.length ?_ ?_
 ·exact ⟨0,rfl,Nat.zero_le _,ht.le (by omega),Nat.le_refl _,by simp [forget,get]⟩
 rintro q e G ⟨i,rfl,hi,hT,hGn,rfl⟩
 by_cases hil:i<a.length
 case neg =>
  have hi2:i=a.length:=by omega
  subst hi2
  rw [List.take_length] at hT
  simp -dsimp (disch:=first | assumption | omega | (simp only [AyA];try omega)) only [↓AyF,AyB,AyE,AyD,eq_self,Nat.reduceEqDiff,↓reduceIte,↓ACR,↓AJy]
  refine A7L hT (by omega) fun H3 n1 n2 n3 => ?_
  simp -dsimp (disch:=first | assumption | omega | (simp only [AyA];try omega)) only [↓AyF,AyB,AyE,AyD,eq_self,Nat.reduceEqDiff,↓reduceIte]
  exact A9K hf0 (n1.le (by omega)) hQ
 obtain ⟨x,hr⟩:∃ r,a[i]?=some r:=⟨_,List.getElem?_eq_getElem hil⟩
 have hx20:=h1 _ (List.mem_of_getElem? hr)
 have hx':(x.map by8).length=20:=by rw [List.length_map]; exact hx20
 have hg:=AOb hr
 simp -dsimp (disch:=first | assumption | omega | (simp only [AyA];try omega)) only [↓AyF,AyB,AyE,AyD,eq_self,Nat.reduceEqDiff,↓reduceIte,hg,↓ACR]
 refine (BbI x hx20).calls rfl fun r hr' => ?_
 subst hr'
 simp -dsimp (disch:=first | assumption | omega | (simp only [AyA];try omega)) only [↓AyF,AyB,AyE,AyD,eq_self,Nat.reduceEqDiff,↓reduceIte,Nat.reduceLeDiff]
 have hcat:(((List.replicate 2 (TV.val (Value.string (str [])))).set 0 (TV.val (Value.string (str [119,97,110,116])))).set 1 (TV.val (Value.string (str (Azq x)))))=(AKs x).map ts:=rfl
 rw [hcat]
 have hTg:=(hT.grow [Ob.obj 0 (.arr 20 1 (x.map by8))]).grow [Ob.obj 0 (.arr 2 1 ((AKs x).map ts))]
 refine APi (BaD (ws:=AKs x) hTg (by simp [AKs]) (by simp [AKs]) (by simp [AKs]) (by unfold AKs; rw [AOT,AJO]; simp [AFQ,AA5]; omega) (by omega) fun H3 n1 n2 n3 => ?_)
 simp -dsimp (disch:=first | assumption | omega | (simp only [AyA];try omega)) only [↓AyF,AyB,AyE,AyD,eq_self,Nat.reduceEqDiff,↓reduceIte]
 simp only [List.length_append,List.length_singleton] at n3
 refine AyP (a.length - (i+1)) (by omega) (by omega) ⟨i+1,rfl,by omega,?_,by omega,by simp [forget,get]⟩
 rw [AFK hr,List.map_append,AOV,List.map_cons,List.map_nil,AOR]
 exact n1.le (by omega)
theorem AQD (a b:AEM) (hf:ATw a b):AEp Tryz.prog 7 [.sl 20 (a.map idW),.sl 20 (b.map idW)] (A5N a b):=by
 refine AyI.toFreshV (AM2 (by simp) ?_)
 have hf0:=hf
 obtain ⟨⟨f1,f2⟩,h1,h2⟩:=hf
 have fin:∀ x y H',AUZ H' (waB a b) (AN6 a b) x y→AWf ADm (fun x H'=>Aze (frs H' x) (A5N a b)) .ret [(4,x),(5,y)] H':=by
  rintro x y H' (⟨h1,⟨j,v,rfl,hj⟩,rfl⟩ | ⟨h1,rfl,rfl⟩)
  ·have hkt:((waB a b).map by8).take (waB a b).length=(waB a b).map by8:=List.take_of_length_le (by simp)
   simp -dsimp (disch:=first | assumption | omega | (simp only [AyA];try omega)) only [↓AyF,AyB,AyE,AyD,eq_self,Nat.reduceEqDiff,↓reduceIte,hj,hkt,↓AEW]
   exact ⟨fun _=>rfl,fun h=>absurd h1 h⟩
  ·simp -dsimp (disch:=first | assumption | omega | (simp only [AyA];try omega)) only [↓AyF,AyB,AyE,AyD,eq_self,Nat.reduceEqDiff,↓reduceIte,↓AEW]
   exact ⟨fun h=>absurd h h1,fun _=>rfl⟩
 simp -dsimp (disch:=first | assumption | omega | (simp only [AyA];try omega)) only [↓AyF,AyB,AyE,AyD,eq_self,Nat.reduceEqDiff,↓reduceIte,Nat.reduceAdd,reduceCtorEq,↓AMb,↓AJx,↓AH2,↓AIa]
 refine (A7w a h1 (by omega)).calls (by rfl) fun r hr => ?_
 subst hr
 by_cases hA:a.Nodup∧a.length≤5000
 ·rw [decide_eq_true hA]
  simp -dsimp (disch:=first | assumption | omega | (simp only [AyA];try omega)) only [↓AyF,AyB,AyE,AyD,eq_self,Nat.reduceEqDiff,↓reduceIte,reduceCtorEq]
  refine (A7w b h2 (by omega)).calls (by rfl) fun r hr => ?_
  subst hr
  simp -dsimp (disch:=first | assumption | omega | (simp only [AyA];try omega)) only [↓AyF,AyB,AyE,AyD,eq_self,Nat.reduceEqDiff,↓reduceIte]
  refine A7j (z:=0) (l:=[]) (ok:=True) (n:=0) (TSt.new rfl (by omega)) fun H1 m1 m2 m3 => ?_
  simp -dsimp (disch:=first | assumption | omega | (simp only [AyA];try omega)) only [↓AyF,AyB,AyE,AyD,eq_self,Nat.reduceEqDiff,↓reduceIte,reduceCtorEq]
  refine A67 hf0 (m1.iff ?_) fin
  rw [decide_eq_true_eq]
  unfold AN6 AZN
  simp [hA]
 ·rw [decide_eq_false hA]
  simp -dsimp (disch:=first | assumption | omega | (simp only [AyA];try omega)) only [↓AyF,AyB,AyE,AyD,eq_self,Nat.reduceEqDiff,↓reduceIte]
  refine A7j (z:=0) (l:=[]) (ok:=True) (n:=0) (TSt.new rfl (by omega)) fun H1 m1 m2 m3 => ?_
  simp -dsimp (disch:=first | assumption | omega | (simp only [AyA];try omega)) only [↓AyF,AyB,AyE,AyD,eq_self,Nat.reduceEqDiff,↓reduceIte,reduceCtorEq]
  refine A67 hf0 (m1.iff ?_) fin
  unfold AN6 AZN
  simp [hA]
end
section
open Go.RowKit
variable [AyZ]
def A2x (H:List Ob) (l:List UInt8) (x:TV) (H':List Ob):Prop:=∃ j v,x = .os 1 j v [] 0 l.length l.length∧H'[j]?=some (.obj v (.arr l.length 1 (l.map by8)))∧H.length≤j∧H.length≤H'.length∧∀ i,i<H.length→H'[i]?=H[i]?
theorem A6A {x:List UInt8} (hx:x.length≤1000) {H:List Ob} {id ver:Nat} (h2:H[id]?=some (.obj ver (.arr x.length 1 (x.map by8)))) :
  AyI Tryz.prog 58 [.os 1 id ver [] 0 x.length x.length] H (A2x H (Azb x)):=by
 refine ARB (by simp) ?_
 have h4:(AMs (x.length+4)).length=4:=rfl
 have hl2:id<H.length:=(List.getElem?_eq_some_iff.1 h2).1
 have hlt:(x.map by8).take x.length=x.map by8:=List.take_of_length_le (by simp)
 unfold Azb
 by_cases h0:x.length=0
 ·rw [if_pos h0]
  simp -dsimp (disch:=first | assumption | omega | (simp only [AyA];try omega)) only [↓AyF,AyB,AyE,AyD,eq_self,↓reduceIte,reduceCtorEq,Nat.reduceLeDiff,↓AKt,↓AFI,↓AKa]
  exact ⟨H.length,0,rfl,by simp [ABT,List.replicate],Nat.le_refl _,by simp,fun i hi=>List.getElem?_append_left hi⟩
 ·rw [if_neg h0]
  have h2a:∀ T:List Ob,(H++T)[id]?=some (.obj ver (.arr x.length 1 (x.map by8))):=fun T=>by rw [List.getElem?_append_left hl2]; exact h2
  simp -dsimp (disch:=first | assumption | omega | (simp only [AyA];try omega)) only [↓AyF,AyB,AyE,AyD,eq_self,↓reduceIte,reduceCtorEq,↓AKt,↓AFI]
  refine (ART (x.length+4) (by omega)).calls rfl fun r hr => ?_
  subst hr
  simp -dsimp (disch:=first | assumption | omega | (simp only [AyA];try omega)) only [↓AyF,AyB,AyE,AyD,eq_self,Nat.reduceEqDiff,↓reduceIte,reduceCtorEq,Nat.reduceLeDiff,ADh,h4,h2a,hlt,↓AKa]
  have e:List.take 4 ((AMs (x.length+4)).map by8)++x.map by8=(AMs (x.length+4)++x).map by8:=by
   rw [List.take_of_length_le (by simp [AVC]),List.map_append]
  refine ⟨H.length,1,by simp [h4],?_,Nat.le_refl _,by simp,fun i hi => ?_⟩
  ·simp [h4]
  ·rw [List.getElem?_append_left hi]
theorem AYY {s:List UInt8} (hs:s.length≤999) {H:List Ob}:AyI Tryz.prog 34 [ts s] H (A2x H (Azb (s++[10]))):=by
 refine ARN (by simp) ?_
 have hl1:(s++[(10:UInt8)]).length≤1000:=by simp; omega
 have hcat:AAD 9 BinOp.add (.string (str s)) (.string (str [10]))=some (.string (str (s++[10]))):=AWu (by simp; omega)
 generalize s++[(10:UInt8)]=x at *
 have hx9:x.length≤9223372036854775807:=by omega
 simp -dsimp (disch:=first | assumption | omega | (simp only [AyA];try omega)) only [↓AyF,AyB,AyE,AyD,eq_self,↓reduceIte,reduceCtorEq,hcat,ADh,↓AP7]
 refine APi (AyI.mono (A6A hl1 (by simp)) ?_)
 rintro y H2 ⟨j,v,rfl,k1,k2,k3,k4⟩
 simp -dsimp (disch:=first | assumption | omega | (simp only [AyA];try omega)) only [↓AyF,AyB,AyE,AyD,eq_self,↓reduceIte,↓AQr]
 rw [List.length_append,List.length_singleton] at k2 k3
 exact ⟨j,v,rfl,k1,by omega,by omega,fun i hi=>by rw [k4 i (by simp; omega),List.getElem?_append_left hi]⟩
end
section
open Go.RowKit
variable [AyZ]
theorem A2y (l:AEM) (h20:AAA l) (hl:l.length≤1000000):Azk Tryz.prog 33 [.sl 20 (l.map idW)] (fun r=>r=tb (!decide (l.Nodup∧l.length≤5000))):=by
 refine AyI.toPureV (AP5 (by simp) ?_)
 generalize hB:decide (l.Nodup∧l.length≤5000)=B
 have hun:∀ l:List UInt8,(l.map by8).map AK8=l:=fun l=>by
  rw [List.map_map]
  conv=>rhs; rw [←List.map_id l]
  exact List.map_congr_left fun x _=>by simp [AK8]
 simp -dsimp (disch:=first | assumption | omega | (simp only [AyA];try omega)) only [↓AyF,AyB,AyE,AyD,eq_self,↓reduceIte,reduceCtorEq,↓APC,↓ALV,↓ALN]
 refine AAW (fun q e H=>∃ (i:Nat),q=l.length - i∧i≤l.length∧(l.take i).Nodup∧H=[]∧e=[(0,.sl 20 (l.map idW)),(3,i64 (i:Int))]) l.length ⟨0,rfl,Nat.zero_le _,by simp,rfl,by simp [forget,get]⟩ ?_
 rintro q e H ⟨i,rfl,hi,hN,rfl,rfl⟩
 by_cases hil:i<l.length
 case neg =>
  have hi2:i=l.length:=by omega
  rw [List.take_of_length_le (by omega)] at hN
  by_cases h5:l.length≤5000
  ·simp -dsimp (disch:=first | assumption | omega | (simp only [AyA];try omega)) only [↓AyF,AyB,AyE,AyD,eq_self,Nat.reduceEqDiff,↓reduceIte,reduceCtorEq,↓ABW,↓AFq,↓AEh]
   rw [←hB,decide_eq_true (show l.Nodup∧l.length≤5000 from ⟨hN,h5⟩)]
   simp [h5]
  ·simp -dsimp (disch:=first | assumption | omega | (simp only [AyA];try omega)) only [↓AyF,AyB,AyE,AyD,eq_self,Nat.reduceEqDiff,↓reduceIte,reduceCtorEq,↓ABW,↓AFq,↓AEh]
   have hBv:B=false:=by rw [←hB]; exact decide_eq_false (fun h:l.Nodup∧l.length≤5000=>h5 h.2)
   rw [hBv]
   simp
   first | done | omega
 obtain ⟨x,hr⟩:∃ r,l[i]?=some r:=⟨_,List.getElem?_eq_getElem hil⟩
 have hx20:=h20 _ (List.mem_of_getElem? hr)
 have hx':(x.map by8).length=20:=by rw [List.length_map]; exact hx20
 have hg:=AOb hr
 simp -dsimp (disch:=first | assumption | omega | (simp only [AyA];try omega)) only [↓AyF,AyB,AyE,AyD,eq_self,Nat.reduceEqDiff,↓reduceIte,reduceCtorEq,↓ABW,↓ALT,↓AMc]
 refine AAW (fun q e H=>∃ (k:Nat),q=i - k∧k≤i∧(∀ j,j<k→l[j]?≠some x)∧H=[]∧e=[(0,.sl 20 (l.map idW)),(3,i64 (i:Int)),(4,i64 (k:Int))]) i ⟨0,rfl,Nat.zero_le _,fun j h=>by omega,rfl,by simp [forget,get]⟩ ?_
 rintro q e H ⟨k,rfl,hk,hn,rfl,rfl⟩
 by_cases hki:k<i
 case neg =>
  have hk2:k=i:=by omega
  subst hk2
  simp -dsimp (disch:=first | assumption | omega | (simp only [AyA];try omega)) only [↓AyF,AyB,AyE,AyD,eq_self,Nat.reduceEqDiff,↓reduceIte,reduceCtorEq,↓ABP,↓ALs]
  refine AyP (l.length - (k+1)) (by omega) (by simp) ⟨k+1,rfl,by omega,?_,rfl,by simp [forget,get]⟩
  rw [AFK hr,List.nodup_append]
  refine ⟨hN,by simp,fun a ha b hb => ?_⟩
  rw [List.mem_singleton] at hb
  subst hb
  rintro rfl
  obtain ⟨j,hj,hja⟩:=List.getElem_of_mem ha
  rw [List.length_take] at hj
  rw [List.getElem_take] at hja
  exact hn j (by omega) (by rw [List.getElem?_eq_getElem (by omega),hja])
 obtain ⟨y,hq⟩:∃ r,l[k]?=some r:=⟨_,List.getElem?_eq_getElem (by omega)⟩
 have hy20:=h20 _ (List.mem_of_getElem? hq)
 have hy':(y.map by8).length=20:=by rw [List.length_map]; exact hy20
 have hgk:=AOb hq
 by_cases he:x=y
 ·subst he
  simp -dsimp (disch:=first | assumption | omega | (simp only [AyA];try omega)) only [↓AyF,AyB,AyE,AyD,eq_self,Nat.reduceEqDiff,↓reduceIte,reduceCtorEq,hg,hgk,beq_self_eq_true,↓ABP,↓AFi,↓AEh]
  rw [←hB,decide_eq_false]
  ·rfl
  rintro ⟨h,_⟩
  obtain ⟨a1,a2⟩:=List.getElem?_eq_some_iff.1 hq
  obtain ⟨b1,b2⟩:=List.getElem?_eq_some_iff.1 hr
  exact (List.pairwise_iff_getElem.1 h) k i a1 b1 hki (by rw [a2,b2])
 ·have hbe:(x == y)=false:=by simpa using he
  simp -dsimp (disch:=first | assumption | omega | (simp only [AyA];try omega)) only [↓AyF,AyB,AyE,AyD,eq_self,Nat.reduceEqDiff,↓reduceIte,reduceCtorEq,hg,hgk,hbe,↓ABP,↓AFi]
  refine AyP (i - (k+1)) (by omega) (by simp) ⟨k+1,rfl,by omega,fun j hj => ?_,rfl,by simp [forget,get]⟩
  by_cases hjk:j=k
  ·subst hjk; rw [hq]; exact fun e=>he (Option.some.inj e).symm
  ·exact hn j (by omega)
def A2V (a b:AEM) (r:TV):Prop:=(AN6 a b→r = .tup [slB (waB a b),i64 ((0:Nat):Int)])∧(¬ AN6 a b→r = .tup [AFl,i64 ((111:Nat):Int)])
theorem APa (a b:AEM) (hf:ATw a b):AEp Tryz.prog 9 [.sl 20 (a.map idW),.sl 20 (b.map idW)] (A2V a b):=by
 refine AyI.toFreshV (AMq (by simp) ?_)
 obtain ⟨⟨f1,f2⟩,h1,h2⟩:=hf
 have no:¬ AN6 a b→∀ H',AWf ACB (fun x H'=>Aze (frs H' x) (A2V a b)) .ret [(4,AFl),(5,i64 ((111:Nat):Int))] H':=by
  intro h1 H'
  simp -dsimp (disch:=first | assumption | omega | (simp only [AyA];try omega)) only [↓AyF,AyB,AyE,AyD,eq_self,Nat.reduceEqDiff,↓reduceIte,↓AEr]
  exact ⟨fun h=>absurd h h1,fun _=>rfl⟩
 simp -dsimp (disch:=first | assumption | omega | (simp only [AyA];try omega)) only [↓AyF,AyB,AyE,AyD,eq_self,Nat.reduceEqDiff,↓reduceIte,Nat.reduceAdd,reduceCtorEq,↓AKP,↓AGw]
 refine (A2y a h1 (by omega)).calls (by rfl) fun r hr => ?_
 subst hr
 simp -dsimp (disch:=first | assumption | omega | (simp only [AyA];try omega)) only [↓AyF,AyB,AyE,AyD,eq_self,Nat.reduceEqDiff,↓reduceIte,reduceCtorEq,↓AGM]
 refine (A2y b h2 (by omega)).calls (by rfl) fun r hr => ?_
 subst hr
 by_cases hA:a.Nodup∧a.length≤5000
 case neg =>
  rw [decide_eq_false hA]
  simp -dsimp (disch:=first | assumption | omega | (simp only [AyA];try omega)) only [↓AyF,AyB,AyE,AyD,eq_self,Nat.reduceEqDiff,↓reduceIte,reduceCtorEq,↓AAJ]
  exact no (fun h=>hA h.1) _
 by_cases hC:b.Nodup∧b.length≤5000
 case neg =>
  rw [decide_eq_true hA,decide_eq_false hC]
  simp -dsimp (disch:=first | assumption | omega | (simp only [AyA];try omega)) only [↓AyF,AyB,AyE,AyD,eq_self,Nat.reduceEqDiff,↓reduceIte,reduceCtorEq,↓AAJ]
  exact no (fun h=>hC h.2) _
 rw [decide_eq_true hA,decide_eq_true hC]
 have hok:AN6 a b:=⟨hA,hC⟩
 simp -dsimp (disch:=first | assumption | omega | (simp only [AyA];try omega)) only [↓AyF,AyB,AyE,AyD,eq_self,Nat.reduceEqDiff,↓reduceIte,reduceCtorEq,↓AAJ,↓AGQ,↓AGD,↓AHS]
 refine AAW (fun q e G=>∃ (i j v:Nat) (c:List UInt8),q=a.length - i∧i≤a.length∧c=AJJ ((a.take i).map AKs)∧c.length≤i*1004∧G[j]?=some (.obj v (.arr c.length 1 (c.map by8)))∧1≤G.length∧e=[(0,.sl 20 (a.map idW)),(1,.sl 20 (b.map idW)),(8,.os 1 j v [] 0 c.length c.length),(9,i64 (i:Int))]) a.length ?_ ?_
 ·exact ⟨0,0,0,[],rfl,Nat.zero_le _,rfl,by simp,rfl,by simp,by simp [forget,get]⟩
 rintro q e G ⟨i,j,v,c,rfl,hi,hB,hcl,hGj,hGn,rfl⟩
 have hjl:=(List.getElem?_eq_some_iff.1 hGj).1
 have hct:=List.take_of_length_le (l:=c.map by8) (i:=c.length) (by simp)
 by_cases hil:i<a.length
 case pos =>
  obtain ⟨x,hr⟩:∃ r,a[i]?=some r:=⟨_,List.getElem?_eq_getElem hil⟩
  have hx20:=h1 _ (List.mem_of_getElem? hr)
  have hx':(x.map by8).length=20:=by rw [List.length_map]; exact hx20
  have hg:=AOb hr
  have hhl:(Azq x).length=40:=by rw [AA5]; omega
  have c1:AAD 9 BinOp.add (.string (str [119,97,110,116,32])) (.string (str (Azq x)))=some (.string (str ([119,97,110,116,32]++Azq x))):=AWu (by simp; omega)
  have hrt:=AYY (s:=[119,97,110,116,32]++Azq x) (H:=G) (by simp; omega)
  have hz1:[119,97,110,116,32]++Azq x++[10]=AAO (AKs x):=by unfold AKs; rw [AJL]; rfl
  rw [hz1] at hrt
  have hzl:(Azb (AAO (AKs x))).length≤1004:=by rw [AA9]; have:=(AJB (w:=AFQ) (x:=x) (by decide) (by decide) hx20).2; unfold AKs; omega
  have hz2:=List.take_of_length_le (l:=(Azb (AAO (AKs x))).map by8) (i:=(Azb (AAO (AKs x))).length) (by simp)
  have hS2:c++Azb (AAO (AKs x))=AJJ ((a.take (i+1)).map AKs):=by rw [AFK hr,List.map_append,AOV,List.map_cons,List.map_nil,AOR,hB]
  generalize [119,97,110,116,32]++Azq x=y1 at *
  generalize Azb (AAO (AKs x))=w at *
  simp -dsimp (disch:=first | assumption | omega | (simp only [AyA];try omega)) only [↓AyF,AyB,AyE,AyD,eq_self,Nat.reduceEqDiff,↓reduceIte,reduceCtorEq,hg,↓AB6,↓AHP]
  refine (AXN x hx20).calls rfl fun r hr' => ?_
  subst hr'
  simp -dsimp (disch:=first | assumption | omega | (simp only [AyA];try omega)) only [↓AyF,AyB,AyE,AyD,eq_self,↓reduceIte,c1]
  refine APi (AyI.mono hrt ?_)
  rintro z9 H2 ⟨j2,v2,rfl,k1,k2,k3,k4⟩
  have hj2:H2[j]?=some (.obj v (.arr c.length 1 (c.map by8))):=by rw [k4 j hjl]; exact hGj
  simp -dsimp (disch:=first | assumption | omega | (simp only [AyA];try omega)) only [↓AyF,AyB,AyE,AyD,eq_self,Nat.reduceEqDiff,↓reduceIte,reduceCtorEq,k1,hz2,hct,hj2]
  have hlw:(c++w).length=c.length+w.length:=by simp
  refine AyP (a.length - (i+1)) (by omega) (by simp; omega) ⟨i+1,j,v+1,c++w,rfl,by omega,hS2,by omega,?_,by simp; omega,by rw [hlw]; simp [forget,get]⟩
  rw [List.getElem?_set_self (by omega),List.length_append,List.map_append]
 have hi2:i=a.length:=by omega
 rw [List.take_of_length_le (by omega)] at hB
 have hc4:List.map by8 c++[by8 48,by8 48,by8 48,by8 48]=(c++ABT).map by8:=by rw [List.map_append]; rfl
 have hl4:(c++ABT).length=c.length+4:=by simp [ABT]
 simp -dsimp (disch:=first | assumption | omega | (simp only [AyA];try omega)) only [↓AyF,AyB,AyE,AyD,eq_self,Nat.reduceEqDiff,↓reduceIte,Nat.reduceAdd,reduceCtorEq,Nat.reduceLeDiff,ADh,hGj,hct,hc4,↓AB6,↓AHM,↓AHV,↓AHN]
 have hE0:(c++ABT).length≤15000*1004+4:=by rw [hl4]; have:i*1004≤15000*1004:=Nat.mul_le_mul_right _ (by omega); omega
 refine AAW (fun q e G2=>∃ (i j v:Nat) (d:List UInt8),q=b.length - i∧i≤b.length∧d=AJJ (a.map AKs)++ABT++AJJ ((b.take i).map AM6)∧d.length≤15060004+i*1004∧G2[j]?=some (.obj v (.arr d.length 1 (d.map by8)))∧1≤G2.length∧G.length≤G2.length∧e=[(1,.sl 20 (b.map idW)),(8,.os 1 j v [] 0 d.length d.length),(11,i64 (i:Int))]) b.length ?_ ?_
 ·refine ⟨0,j,v+1,c++ABT,rfl,Nat.zero_le _,?_,by omega,?_,by simp; omega,by simp,?_⟩
  ·rw [hB]; simp [AJJ]
  ·rw [List.getElem?_set_self hjl,hl4]
  ·rw [hl4]; simp [forget,get]
 clear hGj hjl hct hc4 hl4 hE0
 rintro q e G2 ⟨i,j,v,d,rfl,hi,hD,hdl,hGj,hGn,hGG,rfl⟩
 have hjl:=(List.getElem?_eq_some_iff.1 hGj).1
 have hdt:=List.take_of_length_le (l:=d.map by8) (i:=d.length) (by simp)
 by_cases hil:i<b.length
 case pos =>
  obtain ⟨x,hr⟩:∃ r,b[i]?=some r:=⟨_,List.getElem?_eq_getElem hil⟩
  have hx20:=h2 _ (List.mem_of_getElem? hr)
  have hx':(x.map by8).length=20:=by rw [List.length_map]; exact hx20
  have hg:=AOb hr
  have hhl:(Azq x).length=40:=by rw [AA5]; omega
  have c1:AAD 9 BinOp.add (.string (str [104,97,118,101,32])) (.string (str (Azq x)))=some (.string (str ([104,97,118,101,32]++Azq x))):=AWu (by simp; omega)
  have hrt:=AYY (s:=[104,97,118,101,32]++Azq x) (H:=G2) (by simp; omega)
  have hz1:[104,97,118,101,32]++Azq x++[10]=AAO (AM6 x):=by unfold AM6; rw [AJL]; rfl
  rw [hz1] at hrt
  have hzl:(Azb (AAO (AM6 x))).length≤1004:=by rw [AA9]; have:=(AJB (w:=AJl) (x:=x) (by decide) (by decide) hx20).2; unfold AM6; omega
  have hz2:=List.take_of_length_le (l:=(Azb (AAO (AM6 x))).map by8) (i:=(Azb (AAO (AM6 x))).length) (by simp)
  have hS2:d++Azb (AAO (AM6 x))=AJJ (a.map AKs)++ABT++AJJ ((b.take (i+1)).map AM6):=by rw [AFK hr,List.map_append,AOV,List.map_cons,List.map_nil,AOR,hD,List.append_assoc]
  generalize [104,97,118,101,32]++Azq x=y1 at *
  generalize Azb (AAO (AM6 x))=w at *
  simp -dsimp (disch:=first | assumption | omega | (simp only [AyA];try omega)) only [↓AyF,AyB,AyE,AyD,eq_self,Nat.reduceEqDiff,↓reduceIte,hg,↓AB3,↓AHK]
  refine (AXN x hx20).calls rfl fun r hr' => ?_
  subst hr'
  simp -dsimp (disch:=first | assumption | omega | (simp only [AyA];try omega)) only [↓AyF,AyB,AyE,AyD,eq_self,↓reduceIte,c1]
  refine APi (AyI.mono hrt ?_)
  rintro z9 H2 ⟨j2,v2,rfl,k1,k2,k3,k4⟩
  have hj2:H2[j]?=some (.obj v (.arr d.length 1 (d.map by8))):=by rw [k4 j hjl]; exact hGj
  simp -dsimp (disch:=first | assumption | omega | (simp only [AyA];try omega)) only [↓AyF,AyB,AyE,AyD,eq_self,Nat.reduceEqDiff,↓reduceIte,k1,hz2,hdt,hj2]
  have hlw:(d++w).length=d.length+w.length:=by simp
  refine AyP (b.length - (i+1)) (by omega) (by simp; omega) ⟨i+1,j,v+1,d++w,rfl,by omega,hS2,by omega,?_,by simp; omega,by simp; omega,by rw [hlw]; simp [forget,get]⟩
  rw [List.getElem?_set_self (by omega),List.length_append,List.map_append]
 have hi3:i=b.length:=by omega
 rw [List.take_of_length_le (by omega)] at hD
 have hrt:=AYY (s:=[100,111,110,101]) (H:=G2) (by simp)
 have hz1:[100,111,110,101]++[10]=AAO [AKA]:=by unfold AAO; rw [AJO]; rfl
 rw [hz1] at hrt
 have hE:d++Azb (AAO [AKA])=waB a b:=by rw [hD]; rfl
 have hzl:(Azb (AAO [AKA])).length≤1004:=by rw [AA9]; decide
 have hz2:=List.take_of_length_le (l:=(Azb (AAO [AKA])).map by8) (i:=(Azb (AAO [AKA])).length) (by simp)
 generalize Azb (AAO [AKA])=w at *
 simp -dsimp (disch:=first | assumption | omega | (simp only [AyA];try omega)) only [↓AyF,AyB,AyE,AyD,eq_self,Nat.reduceEqDiff,↓reduceIte,↓AB3,↓AHU]
 refine APi (AyI.mono hrt ?_)
 rintro z9 H2 ⟨j2,v2,rfl,k1,k2,k3,k4⟩
 have hj2:H2[j]?=some (.obj v (.arr d.length 1 (d.map by8))):=by rw [k4 j hjl]; exact hGj
 have hSj:∀ o:Ob,(H2.set j o)[j]?=some o:=fun o=>List.getElem?_set_self (by omega)
 have hEc:List.map by8 d++List.map by8 w=(waB a b).map by8:=by rw [←hE,List.map_append]
 have hEl:(waB a b).length=d.length+w.length:=by rw [←hE,List.length_append]
 have htE:=List.take_of_length_le (l:=(waB a b).map by8) (i:=d.length+w.length) (by rw [List.length_map,hEl]; exact Nat.le_refl _)
 simp -dsimp (disch:=first | assumption | omega | (simp only [AyA];try omega)) only [↓AyF,AyB,AyE,AyD,eq_self,Nat.reduceEqDiff,↓reduceIte,k1,hz2,hdt,hj2,hSj,hEc,htE,↓AEr]
 exact ⟨fun _=>rfl,fun h=>absurd hok h⟩
end
section
open Go.RowKit
variable [AyZ]
theorem AUy (a b:List UInt8):Azk Tryz.prog 96 [slB a,slB b] (fun x=>x=tb (decide (a=b))):=by
 refine AyI.toPureV (AQq (by simp) ?_)
 simp -dsimp (disch:=first | assumption | omega) only [↓AyF,AyB,AyE,AyD,eq_self,Nat.reduceEqDiff,↓reduceIte,Nat.reduceAdd,reduceCtorEq,↓AR0]
theorem A8d {b s:List UInt8}:Azk Tryz.prog 66 [slB b,slB s,.val .nilIface] (fun r=>r=if b=s then .val .nilIface else eno 111):=by
 refine AyI.toPureV (AMn (by simp) ?_)
 simp -dsimp (disch:=first | assumption | omega | (simp only [AyA];try omega)) only [↓AyF,AyB,AyE,AyD,eq_self,Nat.reduceEqDiff,↓reduceIte,Nat.reduceAdd,reduceCtorEq,↓AKj]
 refine (AUy b s).calls rfl fun r hr => ?_
 subst hr
 by_cases h:b=s
 ·rw [decide_eq_true h,if_pos h]
  simp -dsimp (disch:=first | assumption | omega | (simp only [AyA];try omega)) only [↓AyF,AyB,AyE,AyD,eq_self,Nat.reduceEqDiff,↓reduceIte,↓AFt]
 ·rw [decide_eq_false h,if_neg h]
  simp -dsimp (disch:=first | assumption | omega | (simp only [AyA];try omega)) only [↓AyF,AyB,AyE,AyD,eq_self,Nat.reduceEqDiff,↓reduceIte,↓AFt]
  rfl
theorem A8t {b:List UInt8} {n:Int}:Azk Tryz.prog 66 [slB b,AFl,eno n] (fun r=>r=eno 111):=by
 refine AyI.toPureV (AMn (by simp) ?_)
 simp -dsimp (disch:=first | assumption | omega | (simp only [AyA];try omega)) only [↓AyF,AyB,AyE,AyD,eq_self,Nat.reduceEqDiff,↓reduceIte,Nat.reduceAdd,reduceCtorEq,↓AKj,↓AFt]
 rfl
end
section
open Go.RowKit
variable [AyZ] [AyO] [AyR]
theorem A2C:∀ (l w:List UInt8),∃ a r,spl w l=a::r
 | [],w=>⟨w,[],rfl⟩
 | c::l,w=>by
  rw [spl]
  split
  ·exact ⟨w,_,rfl⟩
  ·exact A2C l _
theorem ARq:∀ l:AEM,ADW (l.map idW)=true
 | []=>rfl
 | x::l=>by
  rw [List.map_cons,ADW,ARq l]
  simp [idW,AS2,AXQ]
theorem ARc:∀ {l w x:List UInt8},x∈spl w l→x.length≤w.length+l.length
 | [],w,x,h=>by rw [spl,List.mem_singleton] at h; subst h; simp
 | c::l,w,x,h=>by
  rw [spl] at h
  split at h
  ·rcases List.mem_cons.1 h with rfl | h
   ·simp
   ·have:=ARc h; simp at this ⊢; omega
  ·have:=ARc h; simp at this ⊢; omega
theorem APE {b x:List UInt8} (h:x∈ACI b):x.length≤b.length:=by
 have:=ARc h
 have:=AO7 b
 simp at *; omega
theorem AKY (s:List UInt8):((ACN s).map by8).length=20:=by
 rw [List.length_map]
 unfold ACN
 split
 ·rename_i h
  exact AUf h
 ·rfl
def AZ9:List (List UInt8×TV):=[(AFQ,.op 0 0 []),(AJl,.op 1 0 [])]
theorem AXx:AD3 [119,97,110,116] AZ9=some (.op 0 0 []):=by simp [AZ9,AD3,AFQ]
theorem AYe:AD3 [104,97,118,101] AZ9=some (.op 1 0 []):=by simp [AZ9,AD3,AFQ,AJl]
theorem A4x {k:List UInt8} (h1:k≠AFQ) (h2:k≠AJl):AD3 k AZ9=none:=by
 unfold AZ9
 rw [AD3,if_neg (Ne.symm h1),AD3,if_neg (Ne.symm h2),AD3]
theorem Baq:AGs [104,97,118,101] (.op 1 0 []) (AGs [119,97,110,116] (.op 0 0 []) [])=AZ9:=by simp [AGs,AZ9,AFQ,AJl]
def A6i (c:List UInt8) (r:TV):Prop:=(∀ a b,AN6 a b→AAA a→AAA b→waB a b=c→r = .tup [.sl 20 (a.map idW),.sl 20 (b.map idW),.val .nilIface])∧((∀ a b,AN6 a b→AAA a→AAA b→waB a b≠c)→(∀ ls,AyV ls c→r = .tup [AFl,AFl,eno 111])∧((∀ ls,¬ AyV ls c)→r = .tup [AFl,AFl,eno 110]))
theorem AXd (b:List UInt8) (hb:b.length≤60000):AEp Tryz.prog 37 [slB b] (A6i b):=by
 refine AyI.toFreshV (AOC (by simp) ?_)
 simp -dsimp (disch:=first | assumption | omega | (simp only [AyA];try omega)) only [↓AyF,AyB,AyE,AyD,eq_self,Nat.reduceEqDiff,↓reduceIte,reduceCtorEq,↓ANm,↓AIZ]
 refine (A7G b (by omega)).calls rfl fun r hr => ?_
 by_cases hL:∃ ls,AyV ls b
 case neg =>
  have hno:∀ ls,¬ AyV ls b:=fun ls h=>hL ⟨ls,h⟩
  rw [hr.2 hno]
  simp -dsimp (disch:=first | assumption | omega | (simp only [AyA];try omega)) only [↓AyF,AyB,AyE,AyD,eq_self,Nat.reduceEqDiff,↓reduceIte,reduceCtorEq,↓AC9,↓ABd]
  exact ⟨fun x y _ h1 h2 e=>absurd e (AX9 hno x y h1 h2),fun _=>⟨fun ls h=>absurd h (hno ls),fun _=>rfl⟩⟩
 obtain ⟨ls,hls⟩:=hL
 rw [hr.1 ls hls]
 clear hr
 have hlen:ls.length≤15000:=by
  have h1:∀ l:List (List UInt8),4*l.length≤(l.flatMap Azb).length:=fun l=>by
   induction l with
   | nil=>simp
   | cons x l ih=>rw [List.flatMap_cons,List.length_append,AA9,List.length_cons]; omega
  have:=h1 ls
  rw [hls.2] at this
  omega
 simp -dsimp (disch:=first | assumption | omega | (simp only [AyA];try omega)) only [↓AyF,AyB,AyE,AyD,eq_self,Nat.reduceEqDiff,↓reduceIte,Nat.reduceAdd,reduceCtorEq,Baq,↓AC9,↓AJt,↓AIP,↓AJQ]
 refine AAW (fun q e H=>∃ (i u v:Nat) (wa hv:AEM),q=ls.length - i∧i≤ls.length∧(wa,hv)=ARI (ls.take i)∧5≤H.length∧H[0]?=some (.obj 0 (.os 20 4 v [] 0 wa.length wa.length))∧H[1]?=some (.obj 0 (.os 20 3 u [] 0 hv.length hv.length))∧H[2]?=some (.mpo .str AZ9)∧H[3]?=some (.obj u (.arr hv.length 20 (hv.map idW)))∧H[4]?=some (.obj v (.arr wa.length 20 (wa.map idW)))∧e=[(0,slB b),(2,.op 0 0 []),(3,.op 1 0 []),(6,.mp 2 0),(25,.sl 1 (ls.map ACU)),(26,i64 (ls.length:Int)),(27,i64 (i:Int))]) ls.length ?_ ?_
 ·exact ⟨0,0,0,[],[],rfl,Nat.zero_le _,rfl,by simp,rfl,rfl,rfl,rfl,rfl,by simp [forget,get]⟩
 rintro q e H ⟨i,u,v,wa,hv,rfl,hi,hO,h5l,hH0,hH1,hH2,hH3,hH4,rfl⟩
 have hsm:=AVr (ls:=ls.take i)
 rw [←hO,List.length_take,Nat.min_eq_left hi] at hsm
 obtain ⟨⟨s1,s2⟩,s3,s4⟩:=hsm
 simp only at s1 s2 s3 s4
 have hwt:(wa.map idW).take wa.length=wa.map idW:=List.take_of_length_le (by simp)
 have hht:(hv.map idW).take hv.length=hv.map idW:=List.take_of_length_le (by simp)
 by_cases hil:i<ls.length
 case neg =>
  have hi2:i=ls.length:=by omega
  rw [List.take_of_length_le (by omega)] at hO
  have uq:∀ x y,AAA x→AAA y→waB x y=b→x=wa∧y=hv:=fun x y h1 h2 e=>by
   have:=AYO hls h1 h2 e
   rw [←hO] at this
   cases this
   exact ⟨rfl,rfl⟩
  simp -dsimp (disch:=first | assumption | omega | (simp only [AyA];try omega)) only [↓AyF,AyB,AyE,AyD,eq_self,Nat.reduceEqDiff,↓reduceIte,reduceCtorEq,hH0,hH1,↓Azt,↓Azu,↓AID]
  refine (AQD wa hv ⟨⟨by omega,by omega⟩,s1,s2⟩).lends (args':=[.sl 20 (wa.map idW),.sl 20 (hv.map idW)]) (by simp -dsimp (disch:=first | assumption | omega | (simp only [AyA];try omega)) only [AyE,AyD,eq_self,↓reduceIte,hH3,hH4,hwt,hht]) fun r hr => ?_
  have hl0:0<H.length:=by omega
  have hl1:1<H.length:=by omega
  have hSa':∀ o o2:Ob,((H.set 0 o).set 1 o2)[0]?=some o:=fun o o2=>by rw [List.getElem?_set_ne (by omega),List.getElem?_set_self hl0]
  have hSb':∀ o o2:Ob,((H.set 0 o).set 1 o2)[1]?=some o2:=fun o o2=>List.getElem?_set_self (by simpa using hl1)
  have bad:(AN6 wa hv→waB wa hv≠b)→A6i b (.tup [AFl,AFl,eno 111]):=fun h=>by
   refine ⟨fun x y h1 h2 h3 e => ?_,fun _=>⟨fun _ _=>rfl,fun h=>absurd hls (h ls)⟩⟩
   obtain ⟨rfl,rfl⟩:=uq x y h2 h3 e
   exact absurd e (h h1)
  by_cases hok:AN6 wa hv
  ·rw [hr.1 hok]
   clear hr
   simp -dsimp (disch:=first | assumption | omega | (simp only [AyA];try omega)) only [↓AyF,AyB,AyE,AyD,eq_self,Nat.reduceEqDiff,↓reduceIte,reduceCtorEq,↓ADA]
   refine A8d.calls rfl fun r hr => ?_
   subst hr
   by_cases hB:b=waB wa hv
   ·rw [if_pos hB]
    have hSa:∀ o o2:Ob,((H.set 0 o).set 1 o2)[0]?=some o:=fun o o2=>by rw [List.getElem?_set_ne (by omega),List.getElem?_set_self hl0]
    have hSb:∀ o o2:Ob,((H.set 0 o).set 1 o2)[1]?=some o2:=fun o o2=>List.getElem?_set_self (by simpa using hl1)
    have hSc:∀ o o2:Ob,((H.set 0 o).set 1 o2)[3]?=some (.obj u (.arr hv.length 20 (hv.map idW))):=fun o o2=>by rw [List.getElem?_set_ne (by omega),List.getElem?_set_ne (by omega)]; exact hH3
    have hSd:∀ o o2:Ob,((H.set 0 o).set 1 o2)[4]?=some (.obj v (.arr wa.length 20 (wa.map idW))):=fun o o2=>by rw [List.getElem?_set_ne (by omega),List.getElem?_set_ne (by omega)]; exact hH4
    simp -dsimp (disch:=first | assumption | omega | (simp only [AyA];try omega)) only [↓AyF,AyB,AyE,AyD,eq_self,Nat.reduceEqDiff,↓reduceIte,reduceCtorEq,hH0,hH1,hSa,hSb,hSc,hSd,hwt,hht,ARq,↓ABd]
    refine ⟨fun x y h1 h2 h3 e => ?_,fun h=>absurd hB.symm (h _ _ hok s1 s2)⟩
    obtain ⟨rfl,rfl⟩:=uq x y h2 h3 e
    rfl
   ·rw [if_neg hB]
    simp -dsimp (disch:=first | assumption | omega | (simp only [AyA];try omega)) only [↓AyF,AyB,AyE,AyD,eq_self,Nat.reduceEqDiff,↓reduceIte,reduceCtorEq,hH0,hH1,hSa',hSb',↓ABd]
    exact bad fun _ e=>hB e.symm
  ·rw [hr.2 hok]
   clear hr
   simp -dsimp (disch:=first | assumption | omega | (simp only [AyA];try omega)) only [↓AyF,AyB,AyE,AyD,eq_self,Nat.reduceEqDiff,↓reduceIte,reduceCtorEq,↓ADA]
   refine A8t.calls rfl fun r hr => ?_
   subst hr
   simp -dsimp (disch:=first | assumption | omega | (simp only [AyA];try omega)) only [↓AyF,AyB,AyE,AyD,eq_self,Nat.reduceEqDiff,↓reduceIte,reduceCtorEq,hH0,hH1,hSa',hSb',↓ABd]
   exact bad fun h=>absurd h hok
 have hg:ls[i]?=some ls[i]:=List.getElem?_eq_getElem hil
 have hgl:(ls.map ACU)[i]?=some (ACU ls[i]):=by rw [List.getElem?_map,hg]; rfl
 have hsu:=AYz hg
 rw [←hO] at hsu
 have hx1:=hls.1 _ (List.mem_of_getElem? hg)
 obtain ⟨a,rest,hw⟩:=A2C (ABe ls[i]) []
 have hw':ACI ls[i]=a::rest:=hw
 unfold ACU at hgl
 rw [hw'] at hgl hsu
 have hgl':(ls.map ACU)[i]?=some (.sl 1 (ts a::rest.map ts)):=hgl
 by_cases haw:a=AFQ
 ·subst haw
  have hgl'':(ls.map ACU)[i]?=some (.sl 1 (ts [119,97,110,116]::rest.map ts)):=hgl'
  by_cases hr1:rest.length=1
  case neg =>
   have hst:AJ7 (wa,hv) (AFQ::rest)=(wa,hv):=by
    unfold AJ7
    split
    ·rename_i x y hxy
     cases hxy
     exact absurd rfl hr1
    ·rfl
   rw [hst] at hsu
   simp -dsimp (disch:=first | assumption | omega | (simp only [AyA];try omega)) only [↓AyF,AyB,AyE,AyD,eq_self,Nat.reduceEqDiff,↓reduceIte,Nat.reduceAdd,reduceCtorEq,hgl'',hH2,AXx,Option.isSome_some,hr1,↓Azt,↓Azu,↓AzE,↓AzF,↓AzD]
   exact AyP (ls.length - (i+1)) (by omega) h5l ⟨i+1,u,v,wa,hv,rfl,by omega,hsu.symm,h5l,hH0,hH1,hH2,hH3,hH4,by simp [forget,get]⟩
  obtain ⟨c,rfl⟩:∃ c,rest=[c]:=by
   match rest,hr1 with
   | [c],_=>exact ⟨c,rfl⟩
  have hcl:=APE (b:=ls[i]) (x:=c) (by rw [hw']; simp)
  simp -dsimp (disch:=first | assumption | omega | (simp only [AyA];try omega)) only [↓AyF,AyB,AyE,AyD,eq_self,Nat.reduceEqDiff,↓reduceIte,Nat.reduceAdd,reduceCtorEq,hgl'',hH2,AXx,Option.isSome_some,↓Azt,↓Azu,↓AzE,↓AzF,↓AzD,↓ADG]
  refine (A2E c (by omega)).calls (by rfl) fun r hr => ?_
  subst hr
  have hpl':=AKY c
  cases hx:ADV c with
  | false =>
   have hst:AJ7 (wa,hv) [AFQ,c]=(wa,hv):=by unfold AJ7; simp [hx]
   rw [hst] at hsu
   rw [if_neg (by simp)]
   simp -dsimp (disch:=first | assumption | omega | (simp only [AyA];try omega)) only [↓AyF,AyB,AyE,AyD,eq_self,Nat.reduceEqDiff,↓reduceIte,Nat.reduceAdd,reduceCtorEq]
   exact AyP (ls.length - (i+1)) (by omega) (by simp; omega) ⟨i+1,u,v,wa,hv,rfl,by omega,hsu.symm,by simp; omega,by rw [ga (by omega)]; exact hH0,by rw [ga (by omega)]; exact hH1,by rw [ga (by omega)]; exact hH2,by rw [ga (by omega)]; exact hH3,by rw [ga (by omega)]; exact hH4,by simp [forget,get]⟩
  | true =>
   have hst:AJ7 (wa,hv) [AFQ,c]=(wa++[AAB c],hv):=by unfold AJ7; simp [hx,AFQ]
   have hpp:ACN c=AAB c:=by unfold ACN; rw [if_pos hx]
   rw [hst] at hsu
   rw [if_pos rfl]
   rw [hpp] at hpl' ⊢
   simp -dsimp (disch:=first | assumption | omega | (simp only [AyA];try omega)) only [↓AyF,AyB,AyE,AyD,eq_self,Nat.reduceEqDiff,↓reduceIte,Nat.reduceAdd,reduceCtorEq,Nat.reduceLeDiff,hH0,hH4,hwt,A6v,↓ADM]
   have hl1:(wa++[AAB c]).length=wa.length+1:=by simp
   refine AyP (ls.length - (i+1)) (by omega) (by simp; omega) ⟨i+1,u,v+1,wa++[AAB c],hv,rfl,by omega,hsu.symm,by simp; omega,?_,?_,?_,?_,?_,by simp [forget,get]⟩
   ·rw [ga (by simp<;>omega),APc (by simp<;>omega),hl1]
   ·rw [ga (by simp<;>omega),AQu (by simp<;>omega) (by omega),List.getElem?_set_ne (by omega)]; exact hH1
   ·rw [ga (by simp<;>omega),AQu (by simp<;>omega) (by omega),List.getElem?_set_ne (by omega)]; exact hH2
   ·rw [ga (by simp<;>omega),AQu (by simp<;>omega) (by omega),List.getElem?_set_ne (by omega)]; exact hH3
   ·rw [ga (by simp<;>omega),AQu (by simp<;>omega) (by omega),List.getElem?_set_self (by omega),hl1,List.map_append]; rfl
 by_cases hah:a=AJl
 ·subst hah
  have hgl'':(ls.map ACU)[i]?=some (.sl 1 (ts [104,97,118,101]::rest.map ts)):=hgl'
  by_cases hr1:rest.length=1
  case neg =>
   have hst:AJ7 (wa,hv) (AJl::rest)=(wa,hv):=by
    unfold AJ7
    split
    ·rename_i x y hxy
     cases hxy
     exact absurd rfl hr1
    ·rfl
   rw [hst] at hsu
   simp -dsimp (disch:=first | assumption | omega | (simp only [AyA];try omega)) only [↓AyF,AyB,AyE,AyD,eq_self,Nat.reduceEqDiff,↓reduceIte,Nat.reduceAdd,reduceCtorEq,hgl'',hH2,AYe,Option.isSome_some,hr1,↓Azt,↓Azu,↓AzE,↓AzF,↓AzD]
   exact AyP (ls.length - (i+1)) (by omega) h5l ⟨i+1,u,v,wa,hv,rfl,by omega,hsu.symm,h5l,hH0,hH1,hH2,hH3,hH4,by simp [forget,get]⟩
  obtain ⟨c,rfl⟩:∃ c,rest=[c]:=by
   match rest,hr1 with
   | [c],_=>exact ⟨c,rfl⟩
  have hcl:=APE (b:=ls[i]) (x:=c) (by rw [hw']; simp)
  simp -dsimp (disch:=first | assumption | omega | (simp only [AyA];try omega)) only [↓AyF,AyB,AyE,AyD,eq_self,Nat.reduceEqDiff,↓reduceIte,Nat.reduceAdd,reduceCtorEq,hgl'',hH2,AYe,Option.isSome_some,↓Azt,↓Azu,↓AzE,↓AzF,↓AzD,↓ADG]
  refine (A2E c (by omega)).calls (by rfl) fun r hr => ?_
  subst hr
  have hpl':=AKY c
  cases hx:ADV c with
  | false =>
   have hst:AJ7 (wa,hv) [AJl,c]=(wa,hv):=by unfold AJ7; simp [hx]
   rw [hst] at hsu
   rw [if_neg (by simp)]
   simp -dsimp (disch:=first | assumption | omega | (simp only [AyA];try omega)) only [↓AyF,AyB,AyE,AyD,eq_self,Nat.reduceEqDiff,↓reduceIte,Nat.reduceAdd,reduceCtorEq]
   exact AyP (ls.length - (i+1)) (by omega) (by simp; omega) ⟨i+1,u,v,wa,hv,rfl,by omega,hsu.symm,by simp; omega,by rw [ga (by omega)]; exact hH0,by rw [ga (by omega)]; exact hH1,by rw [ga (by omega)]; exact hH2,by rw [ga (by omega)]; exact hH3,by rw [ga (by omega)]; exact hH4,by simp [forget,get]⟩
  | true =>
   have hst:AJ7 (wa,hv) [AJl,c]=(wa,hv++[AAB c]):=by unfold AJ7; simp [hx,AFQ,AJl]
   have hpp:ACN c=AAB c:=by unfold ACN; rw [if_pos hx]
   rw [hst] at hsu
   rw [if_pos rfl]
   rw [hpp] at hpl' ⊢
   simp -dsimp (disch:=first | assumption | omega | (simp only [AyA];try omega)) only [↓AyF,AyB,AyE,AyD,eq_self,Nat.reduceEqDiff,↓reduceIte,Nat.reduceAdd,reduceCtorEq,Nat.reduceLeDiff,hH1,hH3,hht,A6v,↓ADM]
   have hl1:(hv++[AAB c]).length=hv.length+1:=by simp
   refine AyP (ls.length - (i+1)) (by omega) (by simp; omega) ⟨i+1,u+1,v,wa,hv++[AAB c],rfl,by omega,hsu.symm,by simp; omega,?_,?_,?_,?_,?_,by simp [forget,get]⟩
   ·rw [ga (by simp<;>omega),AQu (by simp<;>omega) (by omega),List.getElem?_set_ne (by omega)]; exact hH0
   ·rw [ga (by simp<;>omega),APc (by simp<;>omega),hl1]
   ·rw [ga (by simp<;>omega),AQu (by simp<;>omega) (by omega),List.getElem?_set_ne (by omega)]; exact hH2
   ·rw [ga (by simp<;>omega),AQu (by simp<;>omega) (by omega),List.getElem?_set_self (by omega),hl1,List.map_append]; rfl
   ·rw [ga (by simp<;>omega),AQu (by simp<;>omega) (by omega),List.getElem?_set_ne (by omega)]; exact hH4
 have hmg:=A4x haw hah
 have hst:AJ7 (wa,hv) (a::rest)=(wa,hv):=by
  unfold AJ7
  split
  ·rename_i x y hxy
   cases hxy
   split
   ·simp only [haw]
   ·rfl
  ·rfl
 rw [hst] at hsu
 simp -dsimp (disch:=first | assumption | omega | (simp only [AyA];try omega)) only [↓AyF,AyB,AyE,AyD,eq_self,Nat.reduceEqDiff,↓reduceIte,Nat.reduceAdd,reduceCtorEq,hgl',hH2,hmg,Option.isSome_none,↓Azt,↓Azu,↓AzE,↓AzF,↓AzD]
 exact AyP (ls.length - (i+1)) (by omega) h5l ⟨i+1,u,v,wa,hv,rfl,by omega,hsu.symm,h5l,hH0,hH1,hH2,hH3,hH4,by simp [forget,get]⟩
end
section
open Go.RowKit
variable [AyZ] [AyO] [AyR]
def A2O (c:List UInt8) (r:TV):Prop:=(∀ a b,AN6 a b→AAA a→AAA b→waB a b=c→r = .tup [.sl 20 (a.map idW),.sl 20 (b.map idW),i64 ((0:Nat):Int)])∧((∀ a b,AN6 a b→AAA a→AAA b→waB a b≠c)→(∀ ls,AyV ls c→r = .tup [AFl,AFl,i64 ((111:Nat):Int)])∧((∀ ls,¬ AyV ls c)→r = .tup [AFl,AFl,i64 ((110:Nat):Int)]))
theorem AVV (b:List UInt8) (hb:b.length≤60000):Azk Tryz.prog 38 [slB b] (A2O b):=by
 refine AyI.toPureV (AMO (by simp) ?_)
 simp -dsimp (disch:=first | assumption | omega | (simp only [AyA];try omega)) only [↓AyF,AyB,AyE,AyD,eq_self,↓reduceIte,reduceCtorEq,↓ALJ,↓AHL]
 refine (A48 b (by omega)).calls rfl fun r hr => ?_
 by_cases hL:∃ ls,AyV ls b
 case neg =>
  have hno:∀ ls,¬ AyV ls b:=fun ls h=>hL ⟨ls,h⟩
  rw [hr.2 hno]
  simp -dsimp (disch:=first | assumption | omega | (simp only [AyA];try omega)) only [↓AyF,AyB,AyE,AyD,eq_self,Nat.reduceEqDiff,↓reduceIte,reduceCtorEq,↓AB8,↓AA4]
  exact ⟨fun x y _ h1 h2 e=>absurd e (AX9 hno x y h1 h2),fun _=>⟨fun ls h=>absurd h (hno ls),fun _=>rfl⟩⟩
 obtain ⟨ls,hls⟩:=hL
 rw [hr.1 ls hls]
 clear hr
 have hlen:ls.length≤15000:=by
  have h1:∀ l:List (List UInt8),4*l.length≤(l.flatMap Azb).length:=fun l=>by
   induction l with
   | nil=>simp
   | cons x l ih=>rw [List.flatMap_cons,List.length_append,AA9,List.length_cons]; omega
  have:=h1 ls
  rw [hls.2] at this
  omega
 simp -dsimp (disch:=first | assumption | omega | (simp only [AyA];try omega)) only [↓AyF,AyB,AyE,AyD,eq_self,Nat.reduceEqDiff,↓reduceIte,reduceCtorEq,↓AB8,↓AHQ,↓AHT,↓AIR,↓AJf]
 refine AAW (fun q e H=>∃ (i u v:Nat) (wa hv:AEM),q=ls.length - i∧i≤ls.length∧(wa,hv)=ARI (ls.take i)∧2≤H.length∧H[0]?=some (.obj u (.arr hv.length 20 (hv.map idW)))∧H[1]?=some (.obj v (.arr wa.length 20 (wa.map idW)))∧e=[(0,slB b),(5,.sl 1 (ls.map slB)),(7,.os 20 1 v [] 0 wa.length wa.length),(8,.os 20 0 u [] 0 hv.length hv.length),(9,i64 (i:Int))]) ls.length ?_ ?_
 ·exact ⟨0,0,0,[],[],rfl,Nat.zero_le _,rfl,by simp,rfl,rfl,by simp [forget,get]⟩
 rintro q e H ⟨i,u,v,wa,hv,rfl,hi,hO,h2l,hH0,hH1,rfl⟩
 have hsm:=AVr (ls:=ls.take i)
 rw [←hO,List.length_take,Nat.min_eq_left hi] at hsm
 obtain ⟨⟨s1,s2⟩,s3,s4⟩:=hsm
 simp only at s1 s2 s3 s4
 have hwt:(wa.map idW).take wa.length=wa.map idW:=List.take_of_length_le (by simp)
 have hht:(hv.map idW).take hv.length=hv.map idW:=List.take_of_length_le (by simp)
 by_cases hil:i<ls.length
 case neg =>
  have hi2:i=ls.length:=by omega
  rw [List.take_of_length_le (by omega)] at hO
  have uq:∀ x y,AAA x→AAA y→waB x y=b→x=wa∧y=hv:=fun x y h1 h2 e=>by
   have:=AYO hls h1 h2 e
   rw [←hO] at this
   cases this
   exact ⟨rfl,rfl⟩
  simp -dsimp (disch:=first | assumption | omega | (simp only [AyA];try omega)) only [↓AyF,AyB,AyE,AyD,eq_self,Nat.reduceEqDiff,↓reduceIte,reduceCtorEq,↓ACS,↓AIt]
  refine (APa wa hv ⟨⟨by omega,by omega⟩,s1,s2⟩).lends (args':=[.sl 20 (wa.map idW),.sl 20 (hv.map idW)]) (by simp -dsimp (disch:=first | assumption | omega | (simp only [AyA];try omega)) only [AyE,AyD,eq_self,↓reduceIte,hH0,hH1,hwt,hht]) fun r hr => ?_
  have bad:(AN6 wa hv→waB wa hv≠b)→A2O b (.tup [AFl,AFl,i64 ((111:Nat):Int)]):=fun h=>by
   refine ⟨fun x y h1 h2 h3 e => ?_,fun _=>⟨fun _ _=>rfl,fun h=>absurd hls (h ls)⟩⟩
   obtain ⟨rfl,rfl⟩:=uq x y h2 h3 e
   exact absurd e (h h1)
  by_cases hok:AN6 wa hv
  ·rw [hr.1 hok]
   clear hr
   by_cases hB:waB wa hv=b
   ·have hBt:(waB wa hv=b)=True:=eq_true hB
    simp -dsimp (disch:=first | assumption | omega | (simp only [AyA];try omega)) only [↓AyF,AyB,AyE,AyD,eq_self,Nat.reduceEqDiff,↓reduceIte,reduceCtorEq,hBt,hH0,hH1,hwt,hht,↓ABc,↓AA4]
    refine ⟨fun x y h1 h2 h3 e => ?_,fun h=>absurd hB (h _ _ hok s1 s2)⟩
    obtain ⟨rfl,rfl⟩:=uq x y h2 h3 e
    rfl
   ·simp -dsimp (disch:=first | assumption | omega | (simp only [AyA];try omega)) only [↓AyF,AyB,AyE,AyD,eq_self,Nat.reduceEqDiff,↓reduceIte,reduceCtorEq,hB,↓ABc,↓AA4]
    exact bad fun _=>hB
  ·rw [hr.2 hok]
   clear hr
   simp -dsimp (disch:=first | assumption | omega | (simp only [AyA];try omega)) only [↓AyF,AyB,AyE,AyD,eq_self,Nat.reduceEqDiff,↓reduceIte,reduceCtorEq,↓ABc,↓AA4]
   exact bad fun h=>absurd h hok
 have hg:ls[i]?=some ls[i]:=List.getElem?_eq_getElem hil
 have hgl:(ls.map slB)[i]?=some (slB ls[i]):=by rw [List.getElem?_map,hg]; rfl
 have hsu:=AYz hg
 rw [←hO] at hsu
 have hx1:=hls.1 _ (List.mem_of_getElem? hg)
 have hwl:∀ w∈ACI ls[i],w.length≤ls[i].length:=fun w hw=>APE hw
 have hwv:=A6d ls[i] (by omega)
 generalize ACI ls[i]=ws at *
 generalize ls[i]=x at *
 simp -dsimp (disch:=first | assumption | omega | (simp only [AyA];try omega)) only [↓AyF,AyB,AyE,AyD,eq_self,Nat.reduceEqDiff,↓reduceIte,reduceCtorEq,hgl,↓ACS,↓AH0]
 refine hwv.calls rfl fun r hr => ?_
 subst hr
 by_cases h2:ws.length=2
 case neg =>
  have hst:AJ7 (wa,hv) ws=(wa,hv):=by
   unfold AJ7
   split
   ·exact absurd rfl h2
   ·rfl
  rw [hst] at hsu
  simp -dsimp (disch:=first | assumption | omega | (simp only [AyA];try omega)) only [↓AyF,AyB,AyE,AyD,eq_self,Nat.reduceEqDiff,↓reduceIte,Nat.reduceAdd,reduceCtorEq,h2,↓ACM]
  exact AyP (ls.length - (i+1)) (by omega) h2l ⟨i+1,u,v,wa,hv,rfl,by omega,hsu.symm,h2l,hH0,hH1,by simp [forget,get]⟩
 obtain ⟨a,c,rfl⟩:∃ a c,ws=[a,c]:=by
  match ws,h2 with
  | [a,c],_=>exact ⟨a,c,rfl⟩
 have hal:=hwl a (by simp)
 have hcl:=hwl c (by simp)
 have hpl':=AKY c
 simp -dsimp (disch:=first | assumption | omega | (simp only [AyA];try omega)) only [↓AyF,AyB,AyE,AyD,eq_self,Nat.reduceEqDiff,↓reduceIte,Nat.reduceAdd,reduceCtorEq,↓ACM,↓AIY]
 refine (AYC c (by omega)).calls (by rfl) fun r hr => ?_
 subst hr
 cases hx:ADV c with
 | false =>
  have hst:AJ7 (wa,hv) [a,c]=(wa,hv):=by unfold AJ7; simp [hx]
  rw [hst] at hsu
  simp -dsimp (disch:=first | assumption | omega | (simp only [AyA];try omega)) only [↓AyF,AyB,AyE,AyD,eq_self,Nat.reduceEqDiff,↓reduceIte,Nat.reduceAdd,reduceCtorEq,↓AzY]
  exact AyP (ls.length - (i+1)) (by omega) (by simp; omega) ⟨i+1,u,v,wa,hv,rfl,by omega,hsu.symm,by simp; omega,by rw [ga (by omega)]; exact hH0,by rw [ga (by omega)]; exact hH1,by simp [forget,get]⟩
 | true =>
  have hpp:ACN c=AAB c:=by unfold ACN; rw [if_pos hx]
  rw [hpp] at hpl' ⊢
  by_cases haw:a=[119,97,110,116]
  ·have hst:AJ7 (wa,hv) [a,c]=(wa++[AAB c],hv):=by unfold AJ7; simp [hx,haw,AFQ]
   have h1t:(a=[119,97,110,116])=True:=eq_true haw
   have h2f:¬ a=[104,97,118,101]:=by rw [haw]; decide
   rw [hst] at hsu
   simp -dsimp (disch:=first | assumption | omega | (simp only [AyA];try omega)) only [↓AyF,AyB,AyE,AyD,eq_self,Nat.reduceEqDiff,↓reduceIte,Nat.reduceAdd,reduceCtorEq,Nat.reduceLeDiff,h1t,h2f,hH1,hwt,A6v,↓AzY]
   have hl1:(wa++[AAB c]).length=wa.length+1:=by simp
   refine AyP (ls.length - (i+1)) (by omega) (by simp<;>omega) ⟨i+1,u,v+1,wa++[AAB c],hv,rfl,by omega,hsu.symm,by simp<;>omega,?_,?_,by rw [hl1]; simp [forget,get]⟩
   ·rw [ga (by simp<;>omega),AQu (by omega) (by omega)]; exact hH0
   ·rw [ga (by simp<;>omega),APc (by omega),hl1,List.map_append]; rfl
  by_cases hah:a=[104,97,118,101]
  ·have hst:AJ7 (wa,hv) [a,c]=(wa,hv++[AAB c]):=by unfold AJ7; simp [hx,hah,AFQ,AJl]
   have h1t:(a=[104,97,118,101])=True:=eq_true hah
   rw [hst] at hsu
   simp -dsimp (disch:=first | assumption | omega | (simp only [AyA];try omega)) only [↓AyF,AyB,AyE,AyD,eq_self,Nat.reduceEqDiff,↓reduceIte,Nat.reduceAdd,reduceCtorEq,Nat.reduceLeDiff,h1t,haw,hH0,hht,A6v,↓AzY]
   have hl1:(hv++[AAB c]).length=hv.length+1:=by simp
   refine AyP (ls.length - (i+1)) (by omega) (by simp<;>omega) ⟨i+1,u+1,v,wa,hv++[AAB c],rfl,by omega,hsu.symm,by simp<;>omega,?_,?_,by rw [hl1]; simp [forget,get]⟩
   ·rw [ga (by simp<;>omega),APc (by omega),hl1,List.map_append]; rfl
   ·rw [ga (by simp<;>omega),AQu (by omega) (by omega)]; exact hH1
  have hst:AJ7 (wa,hv) [a,c]=(wa,hv):=by unfold AJ7; simp [hx,haw,hah,AFQ,AJl]
  rw [hst] at hsu
  simp -dsimp (disch:=first | assumption | omega | (simp only [AyA];try omega)) only [↓AyF,AyB,AyE,AyD,eq_self,Nat.reduceEqDiff,↓reduceIte,Nat.reduceAdd,reduceCtorEq,haw,hah,↓AzY]
  exact AyP (ls.length - (i+1)) (by omega) (by simp; omega) ⟨i+1,u,v,wa,hv,rfl,by omega,hsu.symm,by simp; omega,by rw [ga (by omega)]; exact hH0,by rw [ga (by omega)]; exact hH1,by simp [forget,get]⟩
end
section
open Go.RowKit
variable [AyZ]
theorem AX1 {l m:List UInt8} {k:Nat} (h:l.take k=m.take k) (h1:k<l.length) (h2:k<m.length) (e:l[k]=m[k]):l.take (k+1)=m.take (k+1):=by
 rw [List.take_succ_eq_append_getElem h1,List.take_succ_eq_append_getElem h2,h,e]
theorem A9Q {x y:UInt8} (h:x≠y):¬ (x.toNat=y.toNat):=fun e=>h (UInt8.toNat_inj.1 e)
theorem same (l m:List UInt8) (hl:l.length≤9223372036854775807) (hm:m.length≤9223372036854775807):Azk Tryz.prog 10 [slB l,slB m] (fun x=>x=tb (decide (l=m))):=by
 refine AyI.toPureV (ATo (by simp) ?_)
 by_cases hlen:l.length=m.length
 case neg =>
  have hne:l≠m:=fun e=>hlen (by rw [e])
  simp -dsimp (disch:=first | assumption | omega) only [↓AyF,AyB,AyE,AyD,eq_self,Nat.reduceEqDiff,↓reduceIte,Nat.reduceAdd,reduceCtorEq,↓AEC,decide_eq_false hne]
 simp -dsimp (disch:=first | assumption | omega) only [↓AyF,AyB,AyE,AyD,eq_self,Nat.reduceEqDiff,↓reduceIte,Nat.reduceAdd,reduceCtorEq,↓AEC]
 refine AAW (fun n e H=>∃ (k:Nat),n=l.length - k∧k≤l.length∧l.take k=m.take k∧e=[(0,slB l),(1,slB m),(5,i64 (k:Int))]∧H=[]) l.length ?_ ?_
 ·exact ⟨0,by simp,by omega,by simp,rfl,rfl⟩
 ·rintro n e H ⟨k,rfl,hk,ht,rfl,rfl⟩
  by_cases hkl:k<l.length
  ·have hkm:k<m.length:=by omega
   have g1:l[k]?=some l[k]:=by simp [hkl]
   have g2:m[k]?=some m[k]:=by simp [hkm]
   by_cases he:l[k]=m[k]
   ·have hx:=AX1 ht hkl hkm he
    have he':l[k].toNat=m[k].toNat:=by rw [he]
    simp -dsimp (disch:=first | assumption | omega) only [↓AyF,AyB,AyE,AyD,eq_self,Nat.reduceEqDiff,↓reduceIte,reduceCtorEq,↓AEC,g1,g2]
    exact AyP (l.length - (k+1)) (by omega) (by simp) ⟨k+1,rfl,by omega,hx,rfl,rfl⟩
   ·have he':=A9Q he
    have hne:l≠m:=fun e=>he (by subst e; rfl)
    simp -dsimp (disch:=first | assumption | omega) only [↓AyF,AyB,AyE,AyD,eq_self,Nat.reduceEqDiff,↓reduceIte,reduceCtorEq,↓AEC,g1,g2,decide_eq_false hne]
  ·have hke:k=l.length:=by omega
   have heq:l=m:=by rw [hke,List.take_length,hlen,List.take_length] at ht; exact ht
   simp -dsimp (disch:=first | assumption | omega) only [↓AyF,AyB,AyE,AyD,eq_self,Nat.reduceEqDiff,↓reduceIte,reduceCtorEq,↓AEC,decide_eq_true heq]
theorem A9u (l:List UInt8) (hl:l.length≤1000000) {H:List Ob} {K:TV→List Ob→Prop} (hk:K (.os 1 H.length 0 [] 0 l.length (l.length+2)) (H++[.obj 0 (.arr (l.length+2) 1 ((l++[71,72]).map by8))])) :
  AyI Tryz.prog 17 [slB l] H K:=by
 refine AR8 (by simp) ?_
 have c2:((l.length:Int)+2)=((l.length+2:Nat):Int):=by omega
 have b1:((1:Nat):Int)*((l.length+2:Nat):Int)≤281474976710656:=by omega
 have b2:((l.length+2:Nat):Int)≤9223372036854775807:=by omega
 have z:∀ n:Nat,List.replicate n (TV.val (.int .u8 ((0:Nat):Int)))=(List.replicate n (0:UInt8)).map by8:=fun n=>by rw [List.map_replicate]; rfl
 have e1:List.map by8 l++List.drop (min l.length (l.length+2)) (List.replicate (l.length+2) (TV.val (.int .u8 ((0:Nat):Int))))=(l++[0,0]).map by8:=by
  rw [z,←List.map_drop,←List.map_append,Nat.min_eq_left (by omega),List.drop_replicate,show l.length+2 - l.length=2 from by omega]; rfl
 have e2:((l++[0,0]).map by8).set l.length (.val (.int .u8 ((71:Nat):Int)))=(l++[71,0]).map by8:=by
  rw [List.map_append,List.set_append_right _ _ (by simp),List.map_append]; simp
 have e3:((l++[71,0]).map by8).set (l.length+1) (.val (.int .u8 ((72:Nat):Int)))=(l++[71,72]).map by8:=by
  rw [List.map_append,List.set_append_right _ _ (by simp),List.map_append]; simp
 have g1:((l++[0,0]).map by8)[l.length]?=some (by8 0):=by simp
 have g2:((l++[71,0]).map by8)[l.length+1]?=some (by8 0):=by simp
 simp -dsimp (disch:=first | assumption | omega | (simp only [AyA];try omega)) only [↓AyF,AyB,AyE,AyD,eq_self,Nat.reduceEqDiff,↓reduceIte,reduceCtorEq,Nat.reduceLeDiff,↓ATO,e1,e2,e3,g1,g2]
 exact hk
abbrev x85 (l:List UInt8):List UInt8:=l.map (· ^^^ 85)
theorem A1o {c:List UInt8} {k:Nat} (hk:k<c.length):(x85 (c.take k)++c.drop k).set k (c[k] ^^^ 85)=x85 (c.take (k+1))++c.drop (k+1):=by
 have h1:(x85 (c.take k)).length=k:=by simp; omega
 rw [List.set_append_right _ _ (by omega),h1,Nat.sub_self,List.drop_eq_getElem_cons hk,List.set_cons_zero,List.take_succ_eq_append_getElem hk,x85,x85,List.map_append,List.append_assoc]
 rfl
theorem AUz (l:List UInt8) (hl:l.length≤1000000) {H:List Ob} {id ver:Nat} {K:TV→List Ob→Prop} (ho:H[id]?=some (.obj ver (.arr (l.length+2) 1 ((l++[71,72]).map by8))))
  (hk:K (tb true) (H.set id (.obj ver (.arr (l.length+2) 1 ((x85 (l++[71,72])).map by8))))) :
  AyI Tryz.prog 19 [.os 1 id ver [] 0 l.length (l.length+2),slB l] H K:=by
 refine AR3 (by simp) ?_
 have hid:id<H.length:=(List.getElem?_eq_some_iff.1 ho).1
 have c2:((l.length:Int)+2)=((l.length+2:Nat):Int):=by omega
 have g1:(l++[71,72])[l.length]?=some 71:=by simp
 have g2:(l++[71,72])[l.length+1]?=some 72:=by simp
 have hL:(l++[71,72]).length=l.length+2:=by simp
 have ht:(l++[71,72]).take l.length=l:=by simp
 generalize hc:l++[71,72]=c at *
 simp -dsimp (disch:=first | assumption | omega | (simp only [AyA];try omega)) only [↓AyF,AyB,AyE,AyD,eq_self,Nat.reduceEqDiff,↓reduceIte,Nat.reduceAdd,reduceCtorEq,Nat.reduceLeDiff,↓AFj]
 refine (same l l (by omega) (by omega)).lends (args':=[slB l,slB l]) (by simp -dsimp (disch:=first | assumption | omega) only [AyE,AyD,eq_self,↓reduceIte,ho,hL,ht]) ?_
 rintro x rfl
 refine ⟨rfl,?_⟩
 rw [show tb (decide (l=l))=tb true from by simp]
 simp -dsimp (disch:=first | assumption | omega | (simp only [AyA];try omega)) only [↓AyF,AyB,AyE,AyD,eq_self,Nat.reduceEqDiff,UInt8.reduceToNat,↓reduceIte,↓AFj,ho,g1,g2]
 ·refine AAW (fun n e H'=>∃ (k:Nat),n=c.length - k∧k≤c.length∧e=[(6,.os 1 id ver [] 0 (l.length+2) (l.length+2)),(7,tb true),(8,i64 (k:Int))]∧H'=H.set id (.obj ver (.arr (l.length+2) 1 ((x85 (c.take k)++c.drop k).map by8)))) c.length ?_ ?_
  ·refine ⟨0,by simp,by omega,rfl,?_⟩
   have e0:x85 (c.take 0)++c.drop 0=c:=by simp
   obtain ⟨h1,h2⟩:=List.getElem?_eq_some_iff.1 ho
   rw [e0,←h2,List.set_getElem_self]
  ·rintro n e H' ⟨k,rfl,hkl,rfl,rfl⟩
   have gs:∀ o,(H.set id o)[id]?=some o:=fun o=>by simp [hid]
   by_cases hkc:k<c.length
   ·have hk2:k<l.length+2:=by omega
    have hlen:(x85 (c.take k)).length=k:=by simp; omega
    have g3:(x85 (c.take k)++c.drop k)[k]?=some c[k]:=by
     rw [List.getElem?_append_right (by omega),hlen,Nat.sub_self,List.getElem?_drop]; simp [hkc]
    have g4:=A1o hkc
    have h85:∀ (t:TypeId) (x:UInt8),AAD t .xor (.int .u8 (x.toNat:Int)) (.int .u8 ((85:Nat):Int))=some (.int .u8 ((x ^^^ 85).toNat:Int)):=fun t x=>A2J (t:=t) (x:=x) (y:=85)
    generalize x85 (c.take k)++c.drop k=r at *
    generalize c[k]=y at *
    simp -dsimp (disch:=first | assumption | omega | (simp only [AyA];try omega)) only [↓AyF,AyB,AyE,AyD,eq_self,Nat.reduceEqDiff,↓reduceIte,↓AFj,gs,g3,g4,h85,A1P]
    exact AyP (c.length - (k+1)) (by omega) (by simp) ⟨k+1,rfl,by omega,rfl,rfl⟩
   ·have hke:k=c.length:=by omega
    have hk2:¬ k<l.length+2:=by omega
    have e0:x85 (c.take k)++c.drop k=x85 c:=by rw [hke,List.take_length,List.drop_length,List.append_nil]
    have e1:List.drop k c=[]:=by rw [hke,List.drop_length]
    simp -dsimp (disch:=first | assumption | omega | (simp only [AyA];try omega)) only [↓AyF,AyB,AyE,AyD,eq_self,Nat.reduceEqDiff,↓reduceIte,↓AFj]
    rw [e1,List.append_nil]
    exact hk
end
section
open Go.RowKit
variable [AyZ] [AzC] [AyO] [AyR]
theorem AVF (l:AEM) (hn:l.length≤100000) (h20:AAA l):AEp Tryz.prog 8 [.sl 20 (l.map idW)] (fun r=>r = .sl 20 (l.map idW)):=by
 refine AyI.toFreshV (AQj (by simp) ?_)
 simp -dsimp (disch:=first | assumption | omega | (simp only [AyA];try omega)) only [↓AyF,AyB,AyE,AyD,eq_self,Nat.reduceEqDiff,↓reduceIte,reduceCtorEq,↓APW,↓AMp,↓ALM,↓ALD]
 refine AAW (fun q e H=>∃ (i k v:Nat),q=l.length - i∧i≤l.length∧1≤H.length∧H[k]?=some (.obj v (.arr i 20 ((l.take i).map idW)))∧e=[(0,.sl 20 (l.map idW)),(3,.os 20 k v [] 0 i i),(4,i64 (i:Int))]) l.length ?_ ?_
 ·exact ⟨0,0,0,rfl,Nat.zero_le _,by simp,rfl,by simp [forget,get]⟩
 rintro q e H ⟨i,k,v,rfl,hi,h1l,hHk,rfl⟩
 have hkl:=(List.getElem?_eq_some_iff.1 hHk).1
 have hl:((l.take i).map idW).length=i:=by rw [List.length_map,List.length_take,Nat.min_eq_left hi]
 have hrt:((l.take i).map idW).take i=(l.take i).map idW:=List.take_of_length_le (by omega)
 by_cases hil:i<l.length
 case neg =>
  have hi2:i=l.length:=by omega
  rw [List.take_of_length_le (by omega)] at hrt hHk hl
  simp -dsimp (disch:=first | assumption | omega | (simp only [AyA];try omega)) only [↓AyF,AyB,AyE,AyD,eq_self,Nat.reduceEqDiff,↓reduceIte,reduceCtorEq,hHk,hl,ARq,↓AFm,↓ALS,↓AO5]
 obtain ⟨x,hr⟩:∃ r,l[i]?=some r:=⟨_,List.getElem?_eq_getElem hil⟩
 have hx':(x.map by8).length=20:=by rw [List.length_map]; exact h20 _ (List.mem_of_getElem? hr)
 have hg:=AOb hr
 have hsn:(l.take (i+1)).map idW=(l.take i).map idW++[.arr 20 1 (x.map by8)]:=by rw [AFK hr,List.map_append]; rfl
 have hA:∀ T:List Ob,(H++T)[k]?=some (.obj v (.arr i 20 ((l.take i).map idW))):=fun T=>by rw [List.getElem?_append_left hkl]; exact hHk
 simp -dsimp (disch:=first | assumption | omega | (simp only [AyA];try omega)) only [↓AyF,AyB,AyE,AyD,eq_self,Nat.reduceEqDiff,↓reduceIte,reduceCtorEq,Nat.reduceLeDiff,hg,hA,hl,A6v,↓AFm]
 refine AyP (l.length - (i+1)) (by omega) (by simp<;>omega) ⟨i+1,k,v+1,rfl,by omega,by simp<;>omega,?_,by simp [forget,get]⟩
 rw [ga (by simp<;>omega),List.getElem?_set_self hkl,hsn]
theorem ARX (l:AEM) (hn:l.length≤100000) (h20:AAA l):Azk Tryz.prog 39 [.sl 20 (l.map idW),.sl 20 (l.map idW)] (fun r=>r=tb true):=by
 refine AyI.toPureV (AOK (by simp) ?_)
 have hun:∀ l:List UInt8,(l.map by8).map AK8=l:=fun l=>by
  rw [List.map_map]
  conv=>rhs; rw [←List.map_id l]
  exact List.map_congr_left fun x _=>by simp [AK8]
 simp -dsimp (disch:=first | assumption | omega | (simp only [AyA];try omega)) only [↓AyF,AyB,AyE,AyD,eq_self,Nat.reduceEqDiff,↓reduceIte,Nat.reduceAdd,reduceCtorEq,↓AMT,↓AJ5,↓AJ1,↓AJW]
 refine AAW (fun q e H=>∃ (i:Nat),q=l.length - i∧i≤l.length∧e=[(0,.sl 20 (l.map idW)),(1,.sl 20 (l.map idW)),(5,i64 (i:Int))]) l.length ⟨0,rfl,Nat.zero_le _,by simp [forget,get]⟩ ?_
 rintro q e H ⟨i,rfl,hi,rfl⟩
 by_cases hil:i<l.length
 case neg=>simp -dsimp (disch:=first | assumption | omega | (simp only [AyA];try omega)) only [↓AyF,AyB,AyE,AyD,eq_self,Nat.reduceEqDiff,↓reduceIte,reduceCtorEq,↓ADs,↓AJU,↓AMY]
 obtain ⟨x,hr⟩:∃ r,l[i]?=some r:=⟨_,List.getElem?_eq_getElem hil⟩
 have hx':(x.map by8).length=20:=by rw [List.length_map]; exact h20 _ (List.mem_of_getElem? hr)
 have hg:=AOb hr
 simp -dsimp (disch:=first | assumption | omega | (simp only [AyA];try omega)) only [↓AyF,AyB,AyE,AyD,eq_self,Nat.reduceEqDiff,↓reduceIte,reduceCtorEq,hg,beq_self_eq_true,↓ADs,↓AJ0]
 exact AyP (l.length - (i+1)) (by omega) (by simp) ⟨i+1,rfl,by omega,by simp [forget,get]⟩
theorem A30 {a b:AEM} (ha:AAA a) (hb:AAA b) (h1:a.length≤500) (h2:b.length≤500):(waB a b).length≤60000:=by
 have e1:∀ {w:List UInt8} {l:AEM},w.length≤4→AAA l→(AJJ (l.map fun x=>[w,Azq x])).length≤50*l.length:=fun {w} {l} hw=>by
  induction l with
  | nil=>intro _; simp [AJJ]
  | cons x l ih =>
   intro h
   have h3:=ih fun y hy=>h y (by simp [hy])
   have e:AJJ ((x::l).map fun x=>[w,Azq x])=Azb (AAO [w,Azq x])++AJJ (l.map fun x=>[w,Azq x]):=by simp [AJJ]
   have hx:=h x (by simp)
   rw [e,List.length_append,AA9,AJL]
   simp [AA5,hx]
   omega
 have k1:=e1 (w:=AFQ) (by decide) ha
 have k2:=e1 (w:=AJl) (by decide) hb
 have k3:(Azb (AAO [AKA])).length≤100:=by decide
 unfold waB
 simp only [List.length_append]
 show (AJJ (a.map AKs)).length+4+(AJJ (b.map AM6)).length+_≤_
 unfold AKs AM6
 omega
theorem A2A (b:List UInt8) (hb:b.length≤60000):Azk Tryz.prog 12 [slB b] (fun r=>r=tb true):=by
 refine AyI.toPureV (AQh (by simp) ?_)
 have htk2:((b++[71,72]).map by8).take b.length=b.map by8:=by rw [List.map_append,List.take_append_of_le_length (by simp),List.take_of_length_le (by simp)]
 have hrd:=AVV b (by omega)
 simp -dsimp (disch:=first | assumption | omega | (simp only [AyA];try omega)) only [↓AyF,AyB,AyE,AyD,eq_self,↓reduceIte,reduceCtorEq,↓APp,↓ALi]
 refine APi (A9u b (by omega) ?_)
 simp -dsimp (disch:=first | assumption | omega | (simp only [AyA];try omega)) only [↓AyF,AyB,AyE,AyD,eq_self,↓reduceIte,reduceCtorEq,↓AMa]
 refine (AXd b (by omega)).lends (args':=[slB b]) (by simp -dsimp (disch:=first | assumption | omega | (simp only [AyA];try omega)) only [AyE,AyD,eq_self,↓reduceIte,Nat.reduceAdd,htk2]) fun r hr => ?_
 by_cases h:∃ x y,AN6 x y∧AAA x∧AAA y∧waB x y=b
 ·obtain ⟨x,y,h1,h2,h3,e⟩:=h
  rw [hr.1 _ _ h1 h2 h3 e]
  have hx5:=h1.1.2
  have hy5:=h1.2.2
  have r1:=hrd.mono fun r hr=>hr.1 _ _ h1 h2 h3 e
  simp -dsimp (disch:=first | assumption | omega | (simp only [AyA];try omega)) only [↓AyF,AyB,AyE,AyD,eq_self,Nat.reduceEqDiff,↓reduceIte,reduceCtorEq,↓AEZ]
  refine APi (AUz b (by omega) rfl ?_)
  simp -dsimp (disch:=first | assumption | omega | (simp only [AyA];try omega)) only [↓AyF,AyB,AyE,AyD,eq_self,Nat.reduceEqDiff,↓reduceIte,reduceCtorEq,↓AFe]
  refine r1.calls rfl fun r hr => ?_
  subst hr
  simp -dsimp (disch:=first | assumption | omega | (simp only [AyA];try omega)) only [↓AyF,AyB,AyE,AyD,eq_self,Nat.reduceEqDiff,↓reduceIte,reduceCtorEq,↓AFb]
  refine (ARX x (by omega) h2).calls rfl fun r hr => ?_
  subst hr
  simp -dsimp (disch:=first | assumption | omega | (simp only [AyA];try omega)) only [↓AyF,AyB,AyE,AyD,eq_self,Nat.reduceEqDiff,↓reduceIte,↓AFa]
  refine (ARX y (by omega) h3).calls rfl fun r hr => ?_
  subst hr
  simp -dsimp (disch:=first | assumption | omega | (simp only [AyA];try omega)) only [↓AyF,AyB,AyE,AyD,eq_self,Nat.reduceEqDiff,↓reduceIte,↓AFp]
  refine A7Q.calls rfl fun r hr => ?_
  subst hr
  simp -dsimp (disch:=first | assumption | omega | (simp only [AyA];try omega)) only [↓AyF,AyB,AyE,AyD,eq_self,Nat.reduceEqDiff,↓reduceIte,↓AI0]
 ·have hno:∀ x y,AN6 x y→AAA x→AAA y→waB x y≠b:=fun x y h1 h2 h3 e=>h ⟨x,y,h1,h2,h3,e⟩
  obtain ⟨n,hn,hrn⟩:∃ n:Nat,r = .tup [AFl,AFl,eno (n:Int)]∧Azk Tryz.prog 38 [slB b] (fun r=>r = .tup [AFl,AFl,i64 (n:Int)]):=by
   by_cases hL:∃ ls,AyV ls b
   ·obtain ⟨ls,hls⟩:=hL
    exact ⟨111,(hr.2 hno).1 ls hls,hrd.mono fun r h=>(h.2 hno).1 ls hls⟩
   ·have hL':∀ ls,¬ AyV ls b:=fun ls h=>hL ⟨ls,h⟩
    exact ⟨110,(hr.2 hno).2 hL',hrd.mono fun r h=>(h.2 hno).2 hL'⟩
  subst hn
  have hs0:Azk Tryz.prog 39 [AFl,AFl] (fun r=>r=tb true):=(ARX [] (by simp) (fun x hx=>by cases hx)).argL (.cons AOQ (.cons AOQ .nil))
  simp -dsimp (disch:=first | assumption | omega | (simp only [AyA];try omega)) only [↓AyF,AyB,AyE,AyD,eq_self,Nat.reduceEqDiff,↓reduceIte,reduceCtorEq,↓AEZ]
  refine APi (AUz b (by omega) rfl ?_)
  simp -dsimp (disch:=first | assumption | omega | (simp only [AyA];try omega)) only [↓AyF,AyB,AyE,AyD,eq_self,Nat.reduceEqDiff,↓reduceIte,reduceCtorEq,↓AFe]
  refine hrn.calls rfl fun r hr => ?_
  subst hr
  simp -dsimp (disch:=first | assumption | omega | (simp only [AyA];try omega)) only [↓AyF,AyB,AyE,AyD,eq_self,Nat.reduceEqDiff,↓reduceIte,reduceCtorEq,↓AFb]
  refine hs0.calls rfl fun r hr => ?_
  subst hr
  simp -dsimp (disch:=first | assumption | omega | (simp only [AyA];try omega)) only [↓AyF,AyB,AyE,AyD,eq_self,Nat.reduceEqDiff,↓reduceIte,↓AFa]
  refine hs0.calls rfl fun r hr => ?_
  subst hr
  simp -dsimp (disch:=first | assumption | omega | (simp only [AyA];try omega)) only [↓AyF,AyB,AyE,AyD,eq_self,Nat.reduceEqDiff,↓reduceIte,↓AFp]
  refine BbH.calls rfl fun r hr => ?_
  subst hr
  simp -dsimp (disch:=first | assumption | omega | (simp only [AyA];try omega)) only [↓AyF,AyB,AyE,AyD,eq_self,Nat.reduceEqDiff,↓reduceIte,↓AI0]
theorem A1H (a b:AEM) (c:List UInt8) (ha:AAA a) (hb:AAA b) (hla:a.length≤140737488351232) (hlb:b.length≤140737488351232) (hc:c.length≤140737488351232):Azk Tryz.prog 3 [.sl 20 (a.map idW),.sl 20 (b.map idW),slB c] (fun r=>r=tb true):=by
 refine AyI.toPureV (ALW (by simp) ?_)
 simp -dsimp (disch:=first | assumption | omega | (simp only [AyA];try omega)) only [↓AyF,AyB,AyE,AyD,eq_self,Nat.reduceEqDiff,↓reduceIte,Nat.reduceAdd,reduceCtorEq,↓AKZ,↓AGO]
 by_cases h60:60<a.length
 ·simp -dsimp (disch:=first | assumption | omega | (simp only [AyA];try omega)) only [↓AyF,AyB,AyE,AyD,eq_self,Nat.reduceEqDiff,↓reduceIte,reduceCtorEq,↓AzN]
 by_cases h61:60<b.length
 ·simp -dsimp (disch:=first | assumption | omega | (simp only [AyA];try omega)) only [↓AyF,AyB,AyE,AyD,eq_self,Nat.reduceEqDiff,↓reduceIte,reduceCtorEq,↓AzN]
 by_cases hl2:6000<c.length
 ·simp -dsimp (disch:=first | assumption | omega | (simp only [AyA];try omega)) only [↓AyF,AyB,AyE,AyD,eq_self,Nat.reduceEqDiff,↓reduceIte,reduceCtorEq,↓AzN]
 have hfit:ATw a b:=⟨⟨by omega,by omega⟩,ha,hb⟩
 have hwo:=(AQD a b hfit).pure
 have hro:=(APa a b hfit).pure
 have hta:=(AVF a (by omega) ha).pure
 have htb:=(AVF b (by omega) hb).pure
 have hrb:=A2A c (by omega)
 simp -dsimp (disch:=first | assumption | omega | (simp only [AyA];try omega)) only [↓AyF,AyB,AyE,AyD,eq_self,Nat.reduceEqDiff,↓reduceIte,reduceCtorEq,↓AHX]
 refine hwo.calls rfl fun r hr => ?_
 by_cases hok:AN6 a b
 ·rw [hr.1 hok]
  have hxl:=A30 ha hb (by omega) (by omega)
  have hrx:=A2A _ hxl
  have hro':=hro.mono fun r h=>h.1 hok
  generalize waB a b=X at *
  simp -dsimp (disch:=first | assumption | omega | (simp only [AyA];try omega)) only [↓AyF,AyB,AyE,AyD,eq_self,Nat.reduceEqDiff,↓reduceIte,reduceCtorEq,↓ACe]
  refine hta.calls rfl fun r hr => ?_
  subst hr
  simp -dsimp (disch:=first | assumption | omega | (simp only [AyA];try omega)) only [↓AyF,AyB,AyE,AyD,eq_self,Nat.reduceEqDiff,↓reduceIte,reduceCtorEq,↓ACc]
  refine htb.calls rfl fun r hr => ?_
  subst hr
  simp -dsimp (disch:=first | assumption | omega | (simp only [AyA];try omega)) only [↓AyF,AyB,AyE,AyD,eq_self,Nat.reduceEqDiff,↓reduceIte,↓AB4]
  refine hro'.calls rfl fun r hr => ?_
  subst hr
  simp -dsimp (disch:=first | assumption | omega | (simp only [AyA];try omega)) only [↓AyF,AyB,AyE,AyD,eq_self,Nat.reduceEqDiff,↓reduceIte,↓AB7]
  refine (same X X (by omega) (by omega)).calls rfl fun r hr => ?_
  subst hr
  simp -dsimp (disch:=first | assumption | omega | (simp only [AyA];try omega)) only [↓AyF,AyB,AyE,AyD,eq_self,Nat.reduceEqDiff,↓reduceIte,↓ACb]
  refine A7Q.calls rfl fun r hr => ?_
  subst hr
  simp -dsimp (disch:=first | assumption | omega | (simp only [AyA];try omega)) only [↓AyF,AyB,AyE,AyD,eq_self,Nat.reduceEqDiff,↓reduceIte,↓AB0]
  refine hrb.calls rfl fun r hr => ?_
  subst hr
  simp -dsimp (disch:=first | assumption | omega | (simp only [AyA];try omega)) only [↓AyF,AyB,AyE,AyD,eq_self,Nat.reduceEqDiff,↓reduceIte,↓AB9]
  refine hrx.calls rfl fun r hr => ?_
  subst hr
  simp -dsimp (disch:=first | assumption | omega | (simp only [AyA];try omega)) only [↓AyF,AyB,AyE,AyD,eq_self,Nat.reduceEqDiff,↓reduceIte,↓AzN]
 ·rw [hr.2 hok]
  have hro':=hro.mono fun r h=>h.2 hok
  simp -dsimp (disch:=first | assumption | omega | (simp only [AyA];try omega)) only [↓AyF,AyB,AyE,AyD,eq_self,Nat.reduceEqDiff,↓reduceIte,reduceCtorEq,↓ACe]
  refine hta.calls rfl fun r hr => ?_
  subst hr
  simp -dsimp (disch:=first | assumption | omega | (simp only [AyA];try omega)) only [↓AyF,AyB,AyE,AyD,eq_self,Nat.reduceEqDiff,↓reduceIte,reduceCtorEq,↓ACc]
  refine htb.calls rfl fun r hr => ?_
  subst hr
  simp -dsimp (disch:=first | assumption | omega | (simp only [AyA];try omega)) only [↓AyF,AyB,AyE,AyD,eq_self,Nat.reduceEqDiff,↓reduceIte,↓AB4]
  refine hro'.calls rfl fun r hr => ?_
  subst hr
  simp -dsimp (disch:=first | assumption | omega | (simp only [AyA];try omega)) only [↓AyF,AyB,AyE,AyD,eq_self,Nat.reduceEqDiff,↓reduceIte,↓AB7]
  refine ((same [] [] (by simp) (by simp)).argL (.cons AOQ (.cons AOQ .nil))).calls rfl fun r hr => ?_
  subst hr
  simp -dsimp (disch:=first | assumption | omega | (simp only [AyA];try omega)) only [↓AyF,AyB,AyE,AyD,eq_self,Nat.reduceEqDiff,↓reduceIte,↓ACb]
  refine BbH.calls rfl fun r hr => ?_
  subst hr
  simp -dsimp (disch:=first | assumption | omega | (simp only [AyA];try omega)) only [↓AyF,AyB,AyE,AyD,eq_self,Nat.reduceEqDiff,↓reduceIte,↓AB0]
  refine hrb.calls rfl fun r hr => ?_
  subst hr
  simp -dsimp (disch:=first | assumption | omega | (simp only [AyA];try omega)) only [↓AyF,AyB,AyE,AyD,eq_self,Nat.reduceEqDiff,↓reduceIte,reduceCtorEq,↓AB9,↓AHO,↓AzN]
end
section
open Go.RowKit
variable [AyZ]
set_option maxRecDepth 100000 in
theorem ATX:AHd Tryz.prog 67 (fun l:List UInt8=>idW l) (fun l=>l.length=20) :=
 AJE (AS5 Tryz.underlying67 (k:=1) (by kernel_rfl) (by kernel_rfl) (ASM Tryz.underlying5) (fun _ _=>rfl)) fun l h=>⟨l,rfl,h.1⟩
set_option maxRecDepth 100000 in
theorem APh:AHd Tryz.prog 22 (fun l:AEM => .sl 20 (l.map idW)) (fun l=>l.length≤140737488351232∧AAA l):=by
 refine AJE (AN9 Tryz.underlying22 (k:=20) (by kernel_rfl) (B:=20) (by kernel_rfl) ATX (fun r h=>by unfold idW; simp [AyK]) (by omega)) fun x h => ?_
 exact ⟨x,rfl,by have:=h.2.1; omega,h.1⟩
end
end Go.Proofs.YtnikbdnebdmmiaaGreatDoor
