/- What the proof of StageWritesCard stands on (texts merged; names shortened by a program): part 7. -/
import Derived.Test.YtnkpoloeifhflaaDoorQF
import Derived.Test.YtnkpoloeifhflaaDoorQE
import Derived.Test.YtnkpoloeifhflaaDoorProg
import Derived.Test.YtnkpoloeifhflaaDoorQD
import Derived.WalkKit
import Derived.LaidEql
import Derived.Stop.Asserts
import Derived.RowKitTokens
import Derived.KernelRfl
import Derived.WalkSpells
import Derived.WalkLawsBesides
import Derived.Lib.Hide
import Derived.Deep.QuietTactic
import Derived.BigQuiet
import Derived.Deep.OwnRows
import Derived.Laws.CopyOwn
import Derived.Laws.BitsAllLaws
import Derived.Laws.EntriesVeiled
import Derived.Deep.DeepCutAuto
import Derived.Deep.Light
import Derived.Deep.CutBlock
import Derived.StillTailTactics
import Derived.IntWalk
import Derived.Deep.AppendSrc
import Derived.Deep.Upon
import Derived.Lib.AppendZerosOnto
import Derived.Deep.MidRow
import Derived.Deep.LoopGhost
import Derived.Deep.DeepMust
import Derived.Deep.RegionHeld3
set_option linter.defProp false
set_option linter.unusedSectionVars false
set_option linter.unusedSimpArgs false
set_option linter.unusedVariables false
namespace Go.Proofs.YtnkpoloeifhflaaDoor
section
open Go.RowKit
variable [AtQ]
def Ayv (s:List UInt8):Bool:=decide (s≠[]∧s≠[46]∧s≠[46,46]∧s≠[46,103,105,116]∧s.length≤50∧¬ ∃ x∈s,x∈[(47:UInt8),0])
theorem AYu (s:List UInt8) (hs:s.length≤1000):Auk Tryd.prog 42 [ts s] (fun x=>x=tb (Ayv s)):=by
 refine Atj.toPureV (ANL (by simp) ?_)
 unfold Ayv
 by_cases h1:s=[]
 ·subst h1; simp -dsimp (disch:=first | assumption | omega) only [↓Atf,Atb,Atd,Ate,eq_self,Nat.reduceEqDiff,↓reduceIte,reduceCtorEq,↓Av7]; simp
 by_cases h2:s=[46]
 ·subst h2; simp -dsimp (disch:=first | assumption | omega) only [↓Atf,Atb,Atd,Ate,eq_self,Nat.reduceEqDiff,↓reduceIte,reduceCtorEq,Nat.reduceLeDiff,↓Av7]; simp
 by_cases h3:s=[46,46]
 ·subst h3; simp -dsimp (disch:=first | assumption | omega) only [↓Atf,Atb,Atd,Ate,eq_self,Nat.reduceEqDiff,↓reduceIte,Nat.reduceAdd,reduceCtorEq,Nat.reduceLeDiff,↓Av7]; simp
 by_cases h4:s=[46,103,105,116]
 ·subst h4; simp -dsimp (disch:=first | assumption | omega) only [↓Atf,Atb,Atd,Ate,eq_self,Nat.reduceEqDiff,↓reduceIte,Nat.reduceAdd,reduceCtorEq,Nat.reduceLeDiff,↓Av7]; simp
 by_cases h5:s.length≤50
 ·simp -dsimp (disch:=first | assumption | omega) only [↓Atf,Atb,Atd,Ate,eq_self,Nat.reduceEqDiff,↓reduceIte,reduceCtorEq,↓Av7,h1,h2,h3,h4,AtL]
  refine (AS7 s 47 0 hs (by decide) (by decide)).calls rfl ?_
  rintro _ rfl
  simp -dsimp (disch:=first | assumption | omega) only [↓Atf,Atb,Atd,Ate,eq_self,Nat.reduceEqDiff,↓reduceIte,↓Av7]
  by_cases hb:∃ x∈s,x∈[(47:UInt8),0]
  ·rw [decide_eq_true hb,decide_eq_false (fun h=>h.2.2.2.2.2 hb)]; rfl
  ·rw [decide_eq_false hb,decide_eq_true ⟨h1,h2,h3,h4,h5,hb⟩]; rfl
 ·simp -dsimp (disch:=first | assumption | omega) only [↓Atf,Atb,Atd,Ate,eq_self,Nat.reduceEqDiff,↓reduceIte,reduceCtorEq,↓Av7,h1,h2,h3,h4,AtL]
  simp [h5]
theorem AQg (s:List UInt8) (hs:s.length≤1000):Auk Tryd.prog 48 [ts s] (fun x=>x=tb (Ayv s)):=by
 refine Atj.toPureV (AP3 (by simp) ?_)
 unfold Ayv
 by_cases h1:s=[]
 ·subst h1; simp -dsimp (disch:=first | assumption | omega) only [↓Atf,Atb,Atd,Ate,eq_self,Nat.reduceLT,Nat.reduceEqDiff,↓reduceIte,reduceCtorEq,↓Au1,AtL]; simp
 by_cases h5:s.length≤50
 ·by_cases h2:s=[46]
  ·subst h2; simp -dsimp (disch:=first | assumption | omega) only [↓Atf,Atb,Atd,Ate,eq_self,Nat.reduceLT,Nat.reduceEqDiff,↓reduceIte,reduceCtorEq,Nat.reduceLeDiff,↓Au1,AtL]; simp
  by_cases h3:s=[46,46]
  ·subst h3; simp -dsimp (disch:=first | assumption | omega) only [↓Atf,Atb,Atd,Ate,eq_self,Nat.reduceLT,Nat.reduceEqDiff,↓reduceIte,Nat.reduceAdd,reduceCtorEq,Nat.reduceLeDiff,↓Au1,AtL]; simp
  by_cases h4:s=[46,103,105,116]
  ·subst h4; simp -dsimp (disch:=first | assumption | omega) only [↓Atf,Atb,Atd,Ate,eq_self,Nat.reduceLT,Nat.reduceEqDiff,↓reduceIte,Nat.reduceAdd,reduceCtorEq,Nat.reduceLeDiff,↓Au1,AtL]; simp
  have hpos:0<s.length:=List.length_pos_iff.2 h1
  simp -dsimp (disch:=first | assumption | omega) only [↓Atf,Atb,Atd,Ate,eq_self,Nat.reduceEqDiff,↓reduceIte,reduceCtorEq,↓Au1,h2,h3,h4,AtL]
  refine At5 (fun q e H=>∃ i:Nat,q=s.length - i∧i≤s.length∧(∀ j x,j<i→s[j]?=some x→x∉[(47:UInt8),0])∧e=[(0,ts s),(3,i64 (i:Int))]∧H=[]) s.length ?_ ?_
  ·exact ⟨0,rfl,by omega,fun j x h=>by omega,rfl,rfl⟩
  ·rintro q e H ⟨i,rfl,hi,hno,rfl,rfl⟩
   by_cases h:i<s.length
   ·obtain ⟨c,hc⟩:∃ c,s[i]?=some c:=⟨_,List.getElem?_eq_getElem h⟩
    by_cases c1:c=0
    ·subst c1
     simp -dsimp (disch:=first | assumption | omega) only [↓Atf,Atb,Atd,Ate,eq_self,Nat.reduceEqDiff,UInt8.reduceToNat,↓reduceIte,reduceCtorEq,↓Au1,AtL,hc]
     rw [decide_eq_false (fun h=>h.2.2.2.2.2 ⟨0,List.mem_of_getElem? hc,by simp⟩)]
    by_cases c2:c=47
    ·subst c2
     simp -dsimp (disch:=first | assumption | omega) only [↓Atf,Atb,Atd,Ate,eq_self,Nat.reduceEqDiff,UInt8.reduceToNat,↓reduceIte,reduceCtorEq,↓Au1,AtL,hc]
     rw [decide_eq_false (fun h=>h.2.2.2.2.2 ⟨47,List.mem_of_getElem? hc,by simp⟩)]
    have d1:¬ c.toNat=0:=fun e=>c1 (UInt8.toNat_inj.1 e)
    have d2:¬ c.toNat=47:=fun e=>c2 (UInt8.toNat_inj.1 e)
    simp -dsimp (disch:=first | assumption | omega) only [↓Atf,Atb,Atd,Ate,eq_self,Nat.reduceEqDiff,↓reduceIte,reduceCtorEq,↓Au1,AtL,hc,d1,d2]
    refine Atk (s.length - (i+1)) (by omega) (by simp) ⟨i+1,rfl,by omega,fun j x hj hx => ?_,rfl,rfl⟩
    by_cases e:j=i
    ·subst e; rw [hc] at hx; cases hx; simp [c1,c2]
    ·exact hno j x (by omega) hx
   ·have hb:¬ ∃ x∈s,x∈[(47:UInt8),0]:=fun ⟨x,hx,hm⟩=>by
     obtain ⟨j,hj,rfl⟩:=List.mem_iff_getElem.1 hx
     exact hno j _ (by omega) (List.getElem?_eq_getElem hj) hm
    simp -dsimp (disch:=first | assumption | omega) only [↓Atf,Atb,Atd,Ate,eq_self,Nat.reduceEqDiff,↓reduceIte,reduceCtorEq,↓Au1,AtL]
    rw [decide_eq_true ⟨h1,h2,h3,h4,h5,hb⟩]
 ·have hpos:0<s.length:=List.length_pos_iff.2 h1
  simp -dsimp (disch:=first | assumption | omega) only [↓Atf,Atb,Atd,Ate,eq_self,Nat.reduceEqDiff,↓reduceIte,reduceCtorEq,↓Au1,AtL]
  simp [h5]
def Atp (s:List UInt8):Bool:=decide (s.length≤100) && (Au3 47 s).all Ayv
theorem A5O (s:List UInt8) (hs:s.length≤20000):Auk Tryd.prog 24 [ts s] (fun x=>x=tb (Atp s)):=by
 refine Atj.toPureV (AGB (by simp) ?_)
 unfold Atp
 by_cases h1:100<s.length
 ·simp -dsimp (disch:=first | assumption | omega) only [↓Atf,Atb,Atd,Ate,eq_self,Nat.reduceEqDiff,↓reduceIte,reduceCtorEq,↓AvT,AtL]
  rw [decide_eq_false (by omega)]; rfl
 rw [decide_eq_true (by omega),Bool.true_and]
 simp -dsimp (disch:=first | assumption | omega) only [↓Atf,Atb,Atd,Ate,eq_self,Nat.reduceEqDiff,↓reduceIte,reduceCtorEq,↓AvT,AtL]
 refine Atj.mono (AX0 s 47 _) ?_
 rintro x H' ⟨rfl,rfl⟩
 simp -dsimp (disch:=first | assumption | omega) only [↓Atf,Atb,Atd,Ate,eq_self,Nat.reduceEqDiff,↓reduceIte,Nat.reduceAdd,reduceCtorEq]
 refine A6l rfl (by kernel_rfl) rfl rfl ?_
 intro N fn ca cb hc
 refine Atj.mono (AWt (c:=47) (id:=4) (sp:=2) (sid:=1) (sv:=3) (L:=5) (r0:=s)
  (I:=fun r H=>(Au3 47 s).all Ayv=(Au3 47 r).all Ayv∧r.length≤s.length ∧
   H=[.obj 0 (tb false),.obj 0 (ts r),.obj 0 (ts [47]),.obj 0 (i64 ((0:Nat):Int)),.lp .ready none fn N [(2,.op 0 0 []),(8,.fn (.func 62) [] [.op 2 0 [],.op 1 0 [],.op 3 0 []])] [9] ca cb])
  (J:=fun H=>(Au3 47 s).all Ayv=false∧∃ r,H=[.obj 0 (tb false),.obj 0 (ts r),.obj 0 (ts [47]),.obj 0 (i64 ((0:Nat):Int)),.lp .done (some .ret) fn N [(2,.op 0 0 []),(8,.fn (.func 62) [] [.op 2 0 [],.op 1 0 [],.op 3 0 []])] [9] ca cb])
  (E:=fun H=>((Au3 47 s).all Ayv=false∧∃ r,H=[.obj 0 (tb false),.obj 0 (ts r),.obj 0 (ts [47]),.obj 0 (i64 ((0:Nat):Int)),.lp .done (some .ret) fn N [(2,.op 0 0 []),(8,.fn (.func 62) [] [.op 2 0 [],.op 1 0 [],.op 3 0 []])] [9] ca cb])
   ∨ ((Au3 47 s).all Ayv=true∧∃ r,H=[.obj 0 (tb false),.obj 0 (ts r),.obj 0 (ts [47]),.obj 0 (i64 ((0:Nat):Int)),.lp .ready none fn N [(2,.op 0 0 []),(8,.fn (.func 62) [] [.op 2 0 [],.op 1 0 [],.op 3 0 []])] [9] ca cb])) ?_ ?_ ?_ ?_ rfl) ?_
 ·rintro r H ⟨g1,g2,rfl⟩
  exact ⟨by simp,by omega,rfl,rfl,rfl⟩
 ·rintro r H k ⟨g1,g2,rfl⟩ hk hp
  rw [hp,List.all_cons] at g1
  refine ARW rfl hc rfl rfl rfl ?_
  simp -dsimp (disch:=first | assumption | omega) only [↓Atf,Atb,Atd,Ate,eq_self,Nat.reduceEqDiff,↓reduceIte,↓AvT,ASy]
  refine (AYu (r.take k) (by simp; omega)).calls rfl ?_
  rintro _ rfl
  cases hn:Ayv (r.take k) with
  | true =>
   simp -dsimp (disch:=first | assumption | omega) only [↓Atf,Atb,Atd,Ate,eq_self,Nat.reduceEqDiff,↓reduceIte,Nat.reduceAdd,AVK]
   refine ⟨5,⟨by omega,by omega,.inl (by omega)⟩,.inl ⟨rfl,rfl,by rw [g1,hn,Bool.true_and],by omega,rfl⟩⟩
  | false =>
   simp -dsimp (disch:=first | assumption | omega) only [↓Atf,Atb,Atd,Ate,eq_self,Nat.reduceEqDiff,↓reduceIte,AVK]
   exact .inr ⟨by rw [g1,hn,Bool.false_and],r,rfl⟩
 ·rintro r H ⟨g1,g2,rfl⟩ hp
  rw [hp,List.all_cons] at g1
  refine ARW rfl hc rfl rfl rfl ?_
  simp -dsimp (disch:=first | assumption | omega) only [↓Atf,Atb,Atd,Ate,eq_self,Nat.reduceEqDiff,↓reduceIte,↓AvT,ASy]
  refine (AYu r (by omega)).calls rfl ?_
  rintro _ rfl
  cases hn:Ayv r with
  | true =>
   simp -dsimp (disch:=first | assumption | omega) only [↓Atf,Atb,Atd,Ate,eq_self,Nat.reduceEqDiff,↓reduceIte,Nat.reduceAdd,AVK]
   refine ⟨5,⟨by omega,by omega,.inl (by omega)⟩,.inr ⟨by rw [g1,hn]; rfl,r,rfl⟩⟩
  | false =>
   simp -dsimp (disch:=first | assumption | omega) only [↓Atf,Atb,Atd,Ate,eq_self,Nat.reduceEqDiff,↓reduceIte,AVK]
   exact .inl ⟨by rw [g1,hn,Bool.false_and],r,rfl⟩
 ·exact ⟨rfl,Nat.le_refl _,rfl⟩
 ·rintro _ H' ((⟨g1,r,rfl⟩ | ⟨g1,r,rfl⟩) | ⟨g1,r,rfl⟩)
  ·simp -dsimp (disch:=first | assumption | omega) only [↓Atf,Atb,Atd,Ate,eq_self,↓reduceIte,Nat.reduceAdd,↓AvT,ANa]
   rw [g1]
  ·simp -dsimp (disch:=first | assumption | omega) only [↓Atf,Atb,Atd,Ate,eq_self,↓reduceIte,Nat.reduceAdd,↓AvT,ANa]
   rw [g1]
  ·simp -dsimp (disch:=first | assumption | omega) only [↓Atf,Atb,Atd,Ate,eq_self,↓reduceIte,Nat.reduceAdd,↓AvT,ANa]
   rw [g1]
theorem AWp (s:List UInt8) (hs:s.length≤20000):Auk Tryd.prog 32 [ts s] (fun x=>x=tb (Atp s)):=by
 refine Atj.toPureV (AIR (by simp) ?_)
 unfold Atp
 by_cases h1:100<s.length
 ·simp -dsimp (disch:=first | assumption | omega) only [↓Atf,Atb,Atd,Ate,eq_self,↓reduceIte,reduceCtorEq,↓AvQ,AtL]
  rw [decide_eq_false (by omega)]; rfl
 rw [decide_eq_true (by omega),Bool.true_and]
 simp -dsimp (disch:=first | assumption | omega) only [↓Atf,Atb,Atd,Ate,eq_self,Nat.reduceEqDiff,↓reduceIte,reduceCtorEq,↓AvQ,AtL]
 refine At5 (fun q e H=>∃ f i:Nat,q=s.length+1 - i∧f≤i∧i≤s.length+1∧((f=s.length+1∧(Au3 47 s).all Ayv=true)∨(i≤s.length∧(Au3 47 s).all Ayv=(Au3 47 (s.drop f)).all Ayv∧47∉(s.drop f).take (i - f)))∧e=[(0,ts s),(3,i64 (f:Int)),(4,i64 (i:Int))]∧H=[]) (s.length+1) ?_ ?_
 ·exact ⟨0,0,rfl,by omega,by omega,.inr ⟨by omega,rfl,by simp⟩,rfl,rfl⟩
 ·rintro q e H ⟨f,i,rfl,hf,hi,hor,rfl,rfl⟩
  by_cases h:i≤s.length
  ·obtain ⟨h0,h1,h2⟩:(i≤s.length∧(Au3 47 s).all Ayv=(Au3 47 (s.drop f)).all Ayv∧47∉(s.drop f).take (i - f)):=by
    rcases hor with ⟨h1,_⟩ | h
    ·omega
    ·exact h
   have hlen:((s.drop f).take (i - f)).length=i - f:=by simp; omega
   by_cases h3:i=s.length
   ·have hp:Au3 47 (s.drop f)=[s.drop f]:=by
     rw [List.take_of_length_le (by simp; omega)] at h2
     exact ATG h2
    have hl2:(s.drop f).length≤1000:=by simp; omega
    rw [hp,List.all_cons,List.all_nil,Bool.and_true] at h1
    subst h3
    simp -dsimp (disch:=first | assumption | omega) only [↓Atf,Atb,Atd,Ate,eq_self,Nat.reduceEqDiff,↓reduceIte,reduceCtorEq,↓AvQ,AtL]
    refine (AQg (s.drop f) hl2).calls rfl ?_
    rintro _ rfl
    cases hn:Ayv (s.drop f) with
    | true =>
     simp -dsimp (disch:=first | assumption | omega) only [↓Atf,Atb,Atd,Ate,eq_self,Nat.reduceEqDiff,↓reduceIte,reduceCtorEq]
     exact Atk 0 (by omega) (by simp) ⟨s.length+1,s.length+1,by omega,by omega,by omega,.inl ⟨rfl,by rw [h1,hn]⟩,rfl,rfl⟩
    | false =>
     simp -dsimp (disch:=first | assumption | omega) only [↓Atf,Atb,Atd,Ate,eq_self,Nat.reduceEqDiff,↓reduceIte,reduceCtorEq,↓AvQ]
     rw [h1,hn]
   ·obtain ⟨c,hc⟩:∃ c,s[i]?=some c:=⟨_,List.getElem?_eq_getElem (by omega)⟩
    have hc':(s.drop f)[i - f]?=some c:=by rw [List.getElem?_drop]; rw [←hc]; congr 1; omega
    by_cases c2:c=47
    ·subst c2
     have hp:Au3 47 (s.drop f)=(s.drop f).take (i - f)::Au3 47 (s.drop (i+1)):=by
      rw [ATQ hc' h2,List.drop_drop]; congr 3; omega
     rw [hp,List.all_cons] at h1
     simp -dsimp (disch:=first | assumption | omega) only [↓Atf,Atb,Atd,Ate,eq_self,Nat.reduceEqDiff,UInt8.reduceToNat,↓reduceIte,reduceCtorEq,↓AvQ,AtL,hc]
     refine (AQg ((s.drop f).take (i - f)) (by omega)).calls rfl ?_
     rintro _ rfl
     cases hn:Ayv ((s.drop f).take (i - f)) with
     | true =>
      simp -dsimp (disch:=first | assumption | omega) only [↓Atf,Atb,Atd,Ate,eq_self,Nat.reduceEqDiff,↓reduceIte,reduceCtorEq]
      exact Atk (s.length+1 - (i+1)) (by omega) (by simp) ⟨i+1,i+1,by omega,by omega,by omega,.inr ⟨by omega,by rw [h1,hn,Bool.true_and],by simp⟩,rfl,rfl⟩
     | false =>
      simp -dsimp (disch:=first | assumption | omega) only [↓Atf,Atb,Atd,Ate,eq_self,Nat.reduceEqDiff,↓reduceIte,reduceCtorEq,↓AvQ]
      rw [h1,hn]; rfl
    have d2:¬ c.toNat=47:=fun e=>c2 (UInt8.toNat_inj.1 e)
    simp -dsimp (disch:=first | assumption | omega) only [↓Atf,Atb,Atd,Ate,eq_self,Nat.reduceEqDiff,↓reduceIte,reduceCtorEq,↓AvQ,AtL,hc,d2]
    refine Atk (s.length+1 - (i+1)) (by omega) (by simp) ⟨f,i+1,by omega,by omega,by omega,.inr ⟨by omega,h1,?_⟩,rfl,rfl⟩
    rw [show i+1 - f=(i - f)+1 by omega,List.take_add_one,hc']
    simp [h2,Ne.symm c2]
  ·rcases hor with ⟨h1,h2⟩ | ⟨h1,_⟩
   ·simp -dsimp (disch:=first | assumption | omega) only [↓Atf,Atb,Atd,Ate,eq_self,Nat.reduceEqDiff,↓reduceIte,reduceCtorEq,↓AvQ,AtL]
    rw [h2]
   ·omega
end
section
open Go.RowKit
theorem A6O {k l:List UInt8} {x:TV}:∀ {es:List (List UInt8×TV)},ABJ k (ALO l x es)=if l=k then some x else ABJ k es
 | []=>by simp [ALO,ABJ]
 | (q,y)::es=>by
  rw [ALO]
  by_cases hq:q=l
  ·subst hq
   rw [if_pos rfl,ABJ,ABJ]
   by_cases h:q=k<;>simp [h]
  ·rw [if_neg hq,ABJ,ABJ,A6O]
   by_cases h:q=k
   ·subst h; rw [if_pos rfl,if_neg (fun e=>hq e.symm),if_pos rfl]
   ·rw [if_neg h,if_neg h]
def Cnt (es:List (List UInt8×TV)) (m:List (List UInt8)):Prop:=∀ l,(ABJ l es).getD (i64 ((0:Nat):Int))=i64 ((m.count l:Nat):Int)
theorem Cnt.add {es:List (List UInt8×TV)} {m:List (List UInt8)} (h:Cnt es m) (l:List UInt8):Cnt (ALO l (i64 ((m.count l+1:Nat):Int)) es) (m++[l]):=by
 intro k
 rw [A6O]
 by_cases hk:l=k
 ·subst hk; simp
 ·rw [if_neg hk,h k]; simp [hk]
theorem AUJ {k:List UInt8} {x:TV}:∀ {es:List (List UInt8×TV)},(ALO k x es).length=if ABJ k es=none then es.length+1 else es.length
 | []=>by simp [ALO,ABJ]
 | (q,y)::es=>by
  rw [ALO,ABJ]
  by_cases hq:q=k
  ·subst hq; simp
  ·rw [if_neg hq,if_neg hq,List.length_cons,AUJ,List.length_cons]
   split<;>rfl
structure AZy (es:List (List UInt8×TV)) (m:List (List UInt8)):Prop where
 cnt:Cnt es m
 has:∀ l,ABJ l es≠none↔l∈m
 le:es.length≤m.length
 nd:es.length=m.length↔m.Nodup
theorem AZy.nil:AZy [] []:=⟨fun l=>by simp [ABJ],fun l=>by simp [ABJ],by simp,by simp⟩
theorem AZy.add {es:List (List UInt8×TV)} {m:List (List UInt8)} (h:AZy es m) (l:List UInt8):AZy (ALO l (i64 ((m.count l+1:Nat):Int)) es) (m++[l]):=by
 have hl:=AUJ (k:=l) (x:=i64 ((m.count l+1:Nat):Int)) (es:=es)
 refine ⟨h.cnt.add l,fun k => ?_,?_,?_⟩
 ·rw [A6O]
  by_cases hk:l=k
  ·subst hk; simp
  ·rw [if_neg hk,h.has k]; simp [Ne.symm hk]
 ·rw [hl,List.length_append,List.length_singleton]
  have:=h.le
  split<;>omega
 ·rw [hl,List.length_append,List.length_singleton,List.nodup_append]
  by_cases hm:l∈m
  ·rw [if_neg ((h.has l).2 hm)]
   have:=h.le
   constructor
   ·intro e; omega
   ·rintro ⟨_,_,g⟩
    exact absurd rfl (g l hm l (by simp))
  ·have hn:ABJ l es=none:=Classical.byContradiction fun k=>hm ((h.has l).1 k)
   rw [if_pos hn]
   have:=h.nd
   constructor
   ·intro e
    refine ⟨this.1 (by omega),by simp,fun a ha b hb => ?_⟩
    rw [List.mem_singleton] at hb
    subst hb
    exact fun e=>hm (e▸ha)
   ·rintro ⟨g,_,_⟩
    have:=this.2 g
    omega
end
section
open Go.RowKit Go.Extern.Stop Go.Stop Go.Extern
variable [AtQ]
theorem ATR (t:Addr) (w:World):(ReflectliteValue.unpack (.iface 53 (.pointer (some t)))).run Tryd.prog w
  = .ok (.agg #[.pointer (some ⟨4,53,none⟩),.pointer (some ⟨w.heap.size,0,none⟩),.int .u64 150]) (w.alloc (.cells #[.pointer (some t)] 53)):=by kernel_rfl
theorem AZU (a:Addr) (w:World):(ReflectliteValue.methodAny (ReflectliteValue.valueError "reflectlite.Value.Type" 0) (fun t _ _ _=>ReflectliteType.toType t) #[.agg #[.pointer (some ⟨4,53,none⟩),.pointer (some a),.int .u64 150]]).run Tryd.prog w
  = .ok (.iface 100 (.agg #[.pointer (some ⟨4,53,none⟩)])) w:=by kernel_rfl
theorem ASk (h:Value) (w:World):(Go.method 271 100 (.agg #[h]) "Kind").run Tryd.prog w = .ok (100,h) w:=by kernel_rfl
theorem A0m (w:World):((ReflectliteType.abiMethod fun t=>(fun a:Nat=>Value.int IntKind.u8 (a:Int)) <$> Rtype.kind t) #[.pointer (some ⟨4,53,none⟩)]).run Tryd.prog w = .ok (.int .u8 22) w:=by kernel_rfl
theorem A1C (w:World):((ReflectliteType.abiMethod fun t=>(fun a:Nat=>Value.int IntKind.u8 (a:Int)) <$> Rtype.kind t) #[.pointer (some ⟨4,38,none⟩)]).run Tryd.prog w = .ok (.int .u8 2) w:=by kernel_rfl
theorem rlm (z:Sem Value) (f:TypeId→Addr→Nat→Nat→Sem Value) (v:Value) :
  ReflectliteValue.method z f #[v]=(do match ← ReflectliteValue.parts v with | none=>z | some (t,a,fl)=>f t a fl (fl % 32)):=rfl
theorem ASc (a:Addr) (w:World):(ReflectliteValue.parts (.agg #[.pointer (some ⟨4,53,none⟩),.pointer (some a),.int .u64 150])).run Tryd.prog w = .ok (some (53,a,150)) w:=by kernel_rfl
theorem AYn (a p:Addr) (W:World) (ha:W.cell? a=some (.pointer (some p))) :
  (ReflectliteValue.method (ReflectliteValue.valueError "reflectlite.Value.IsNil" 0) ReflectliteValue.isNil #[.agg #[.pointer (some ⟨4,53,none⟩),.pointer (some a),.int .u64 150]]).run Tryd.prog W = .ok (.bool false) W:=by
 rw [rlm]
 simp only [Sem.run_bind,ASc,Result.andThen]
 simp [ReflectliteValue.isNil,loadVar,isAgg,underlying,Tryd.underlying53,ha,Result.andThen]
theorem ASs (h:Value) (w:World):(Go.method 271 100 (.agg #[h]) "Elem").run Tryd.prog w = .ok (110,.agg #[h]) w:=by kernel_rfl
theorem ALn (h:Value) (w:World):(Go.method 271 100 (.agg #[h]) "Implements").run Tryd.prog w = .ok (111,.agg #[h]) w:=by kernel_rfl
theorem AIp (h:Value) (w:World):(Go.method 271 100 (.agg #[h]) "AssignableTo").run Tryd.prog w = .ok (108,.agg #[h]) w:=by kernel_rfl
theorem AZ8 (w:World):(ReflectliteType.method ReflectliteType.elem #[.agg #[.pointer (some ⟨4,53,none⟩)]]).run Tryd.prog w = .ok (.iface 100 (.agg #[.pointer (some ⟨4,38,none⟩)])) w:=by kernel_rfl
theorem APz (w:World):(ReflectliteType.relation "Implements" ReflectliteType.implements_ #[.agg #[.pointer (some ⟨4,38,none⟩)],.iface 100 (.agg #[.pointer (some ⟨4,25,none⟩)])]).run Tryd.prog w = .ok (.bool true) w:=by kernel_rfl
theorem AWq (v:Value) (w:World):(ReflectliteType.typeOf #[.iface 38 v]).run Tryd.prog w = .ok (.iface 100 (.agg #[.pointer (some ⟨4,38,none⟩)])) w:=by kernel_rfl
theorem APt (w:World):(ReflectliteType.relation "AssignableTo" ReflectliteType.assignableTo #[.agg #[.pointer (some ⟨4,38,none⟩)],.iface 100 (.agg #[.pointer (some ⟨4,38,none⟩)])]).run Tryd.prog w = .ok (.bool true) w:=by kernel_rfl
theorem AUc (e:Int) (w:World):(ReflectliteValue.unpack (.iface 38 (.int .i64 e))).run Tryd.prog w
  = .ok (.agg #[.pointer (some ⟨4,38,none⟩),.pointer (some ⟨w.heap.size,0,none⟩),.int .u64 130]) (w.alloc (.cells #[.int .i64 e] 38)):=by kernel_rfl
theorem AVu (w:World):(Rtype.elem? 53).run Tryd.prog w = .ok (some 38) w:=by kernel_rfl
theorem A76 (p:Addr) (w:World):(ReflectliteValue.mk 38 p ReflectliteValue.flagAddr).run Tryd.prog w = .ok (.agg #[.pointer (some ⟨4,38,none⟩),.pointer (some p),.int .u64 386]) w:=by kernel_rfl
theorem AXm (a p:Addr) (W:World) (ha:W.cell? a=some (.pointer (some p))) :
  (ReflectliteValue.method (ReflectliteValue.valueError "reflectlite.Value.Elem" 0) ReflectliteValue.elem #[.agg #[.pointer (some ⟨4,53,none⟩),.pointer (some a),.int .u64 150]]).run Tryd.prog W
   = .ok (.agg #[.pointer (some ⟨4,38,none⟩),.pointer (some p),.int .u64 386]) W:=by
 rw [rlm]
 simp only [Sem.run_bind,ASc,Result.andThen]
 simp [ReflectliteValue.elem,loadVar,isAgg,underlying,Tryd.underlying53,ha,Result.andThen,AVu,A76]
theorem rls (v x:Value):ReflectliteValue.set #[v,x]=(do
  let (some (dst,a,fl),some (src,b,_)):=(←ReflectliteValue.parts v,←ReflectliteValue.parts x)
   | unsupported (.noEntry "extern/(internal/reflectlite.Value).Set.zeroValue")
  if fl / ReflectliteValue.flagAddr % 2 == 0 then unsupported (.noEntry "extern/(internal/reflectlite.Value).Set.unaddressable")
  let val ← loadVar src b
  if ← Rtype.directlyAssignable dst src then storeVar dst a val
  else if ← Rtype.implements dst src then
   if (←Rtype.kind src) == 20 then
    match val with
    | .nilIface=>unsupported (.noEntry "extern/reflectlite: a nil value of one interface type handed on as a value of another")
    | _=>storeVar dst a val
   else storeVar dst a (.iface src val)
  else panicString ("reflectlite.Set: value of type " ++ (←Rtype.spelt src) ++ " is not assignable to type " ++ (←Rtype.spelt dst))
  pure (.tuple #[])):=rfl
theorem AVZ (a:Addr) (w:World):(ReflectliteValue.parts (.agg #[.pointer (some ⟨4,38,none⟩),.pointer (some a),.int .u64 386])).run Tryd.prog w = .ok (some (38,a,386)) w:=by kernel_rfl
theorem AWG (a:Addr) (w:World):(ReflectliteValue.parts (.agg #[.pointer (some ⟨4,38,none⟩),.pointer (some a),.int .u64 130])).run Tryd.prog w = .ok (some (38,a,130)) w:=by kernel_rfl
theorem AWk (w:World):(Rtype.directlyAssignable 38 38).run Tryd.prog w = .ok true w:=by kernel_rfl
theorem A6a (ta b:Addr) (e:Int) (old:Value) (W:World) (hb:W.cell? b=some (.int .i64 e)) (ht:W.cell? ta=some old) (hf:W.frozen? ta=false) :
  (ReflectliteValue.set #[.agg #[.pointer (some ⟨4,38,none⟩),.pointer (some ta),.int .u64 386],.agg #[.pointer (some ⟨4,38,none⟩),.pointer (some b),.int .u64 130]]).run Tryd.prog W
   = .ok (.tuple #[]) (W.setCell ta (.int .i64 e)):=by
 rw [rls]
 simp only [Sem.run_bind,AVZ,AWG,Result.andThen]
 simp [ReflectliteValue.flagAddr,loadVar,isAgg,underlying,Tryd.underlying38,hb,Result.andThen,AWk,storeVar,Value.cells,storeCells,Addr.add]
 rw [run_store Tryd.prog W ta _ _ (by rfl)]
 simp [ht,hf]
set_option maxHeartbeats 4000000 in
theorem A8d (e:Int) (t:Addr) (old:Value) (w:World) (hg:w.cell? ⟨0,0,none⟩=some (.iface 100 (.agg #[.pointer (some ⟨4,25,none⟩)]))) (ht0:w.cell? t=some old) (hf0:w.frozen? t=false) :
  Calls Tryd.prog 18 #[.iface 38 (.int .i64 e),.iface 53 (.pointer (some t))] w fun ev w'=>ev = .returned (.bool true)∧w'=((((w.alloc (.cells #[.pointer (some t)] 53)).alloc (.cells #[.pointer (some ⟨4,53,none⟩),.pointer (some ⟨w.heap.size,0,none⟩),.int .u64 150] 76)).alloc (.cells #[.pointer (some ⟨4,53,none⟩),.pointer (some ⟨w.heap.size,0,none⟩),.int .u64 150] 76)).alloc (.cells #[.int .i64 e] 38)).setCell t (.int .i64 e):=by
 have h6:=@run_callFunc_extern Tryd.prog 34 _ (fun args=>ReflectliteValue.unpack (args.getD 0 (.tuple #[]))) Tryd.func34 (by kernel_rfl) (by kernel_rfl) (by kernel_rfl) (by kernel_rfl)
 have h7:=@run_callFunc_extern Tryd.prog 35 _ (ReflectliteValue.methodAny (ReflectliteValue.valueError "reflectlite.Value.Type" 0) (fun t _ _ _=>ReflectliteType.toType t)) Tryd.func35 (by kernel_rfl) (by kernel_rfl) (by kernel_rfl) (by kernel_rfl)
 have h8:=@run_callFunc_extern Tryd.prog 36 _ (ReflectliteValue.method (ReflectliteValue.valueError "reflectlite.Value.IsNil" 0) ReflectliteValue.isNil) Tryd.func36 (by kernel_rfl) (by kernel_rfl) (by kernel_rfl) (by kernel_rfl)
 have h27:=@run_callFunc_extern Tryd.prog 100 _ (ReflectliteType.abiMethod fun t=>do pure (.int .u8 (←Rtype.kind t))) Tryd.func100 (by kernel_rfl) (by kernel_rfl) (by kernel_rfl) (by kernel_rfl)
 have h37:=@run_callFunc_extern Tryd.prog 110 _ (ReflectliteType.method ReflectliteType.elem) Tryd.func110 (by kernel_rfl) (by kernel_rfl) (by kernel_rfl) (by kernel_rfl)
 have h38:=@run_callFunc_extern Tryd.prog 111 _ (ReflectliteType.relation "Implements" ReflectliteType.implements_) Tryd.func111 (by kernel_rfl) (by kernel_rfl) (by kernel_rfl) (by kernel_rfl)
 have h10:=@run_callFunc_extern Tryd.prog 51 _ ReflectliteType.typeOf Tryd.func51 (by kernel_rfl) (by kernel_rfl) (by kernel_rfl) (by kernel_rfl)
 have h35:=@run_callFunc_extern Tryd.prog 108 _ (ReflectliteType.relation "AssignableTo" ReflectliteType.assignableTo) Tryd.func108 (by kernel_rfl) (by kernel_rfl) (by kernel_rfl) (by kernel_rfl)
 have h11:=@run_callFunc_extern Tryd.prog 52 _ (ReflectliteValue.method (ReflectliteValue.valueError "reflectlite.Value.Elem" 0) ReflectliteValue.elem) Tryd.func52 (by kernel_rfl) (by kernel_rfl) (by kernel_rfl) (by kernel_rfl)
 have h12:=@run_callFunc_extern Tryd.prog 53 _ ReflectliteValue.set Tryd.func53 (by kernel_rfl) (by kernel_rfl) (by kernel_rfl) (by kernel_rfl)
 have tO:=AWq
 have mA:=AIp
 have a25:=APt
 have v25:=AUc
 have f6:=ATR
 have f7:=AZU
 have mK:=ASk
 have mE:=ASs
 have mI:=ALn
 have k27:=A0m
 have k25:=A1C
 have e27:=AZ8
 have i25:=APz
 have n8:=AYn ⟨w.heap.size,0,none⟩ t ((w.alloc (.cells #[.pointer (some t)] 53)).alloc (.cells #[.pointer (some ⟨4,53,none⟩),.pointer (some ⟨w.heap.size,0,none⟩),.int .u64 150] 76)) (by simp)
 have hlt:0<w.heap.size:=by
  rcases Nat.lt_or_ge 0 w.heap.size with h | h
  ·exact h
  ·simp [World.cell?,Array.getElem?_eq_none h] at hg
 have hg2:((w.alloc (.cells #[.pointer (some t)] 53)).alloc (.cells #[.pointer (some ⟨4,53,none⟩),.pointer (some ⟨w.heap.size,0,none⟩),.int .u64 150] 76)).cell? ⟨0,0,none⟩=some (.iface 100 (.agg #[.pointer (some ⟨4,25,none⟩)])):=by
  rw [World.cell?_alloc_lt _ _ ⟨0,0,none⟩ (Nat.lt_of_lt_of_le hlt (by simp)),World.cell?_alloc_lt _ _ ⟨0,0,none⟩ hlt]; exact hg
 have htl:t.block<w.heap.size:=by
  rcases Nat.lt_or_ge t.block w.heap.size with h | h
  ·exact h
  ·simp [World.cell?,Array.getElem?_eq_none h] at ht0
 have el:=AXm ⟨w.heap.size,0,none⟩ t (((w.alloc (.cells #[.pointer (some t)] 53)).alloc (.cells #[.pointer (some ⟨4,53,none⟩),.pointer (some ⟨w.heap.size,0,none⟩),.int .u64 150] 76)).alloc (.cells #[.pointer (some ⟨4,53,none⟩),.pointer (some ⟨w.heap.size,0,none⟩),.int .u64 150] 76)) (by rw [World.cell?_alloc_lt _ _ ⟨w.heap.size,0,none⟩ (by simp; omega)]; simp)
 have st:=A6a t ⟨w.heap.size+1+1+1,0,none⟩ e old ((((w.alloc (.cells #[.pointer (some t)] 53)).alloc (.cells #[.pointer (some ⟨4,53,none⟩),.pointer (some ⟨w.heap.size,0,none⟩),.int .u64 150] 76)).alloc (.cells #[.pointer (some ⟨4,53,none⟩),.pointer (some ⟨w.heap.size,0,none⟩),.int .u64 150] 76)).alloc (.cells #[.int .i64 e] 38))
  (by rw [World.cell?_alloc_at _ _ _ _ (by simp)]; rfl)
  (by rw [World.cell?_alloc_lt _ _ t (by simp; omega),World.cell?_alloc_lt _ _ t (by simp; omega),World.cell?_alloc_lt _ _ t (by simp; omega),World.cell?_alloc_lt _ _ t htl]; exact ht0)
  (by rw [World.frozen?_alloc_old _ _ t (by simp; omega),World.frozen?_alloc_old _ _ t (by simp; omega),World.frozen?_alloc_old _ _ t (by simp; omega),World.frozen?_alloc_old _ _ t (Nat.ne_of_lt htl)]; exact hf0)
 go_enter Tryd.func18,Tryd.ntmps18
 go_wp2
 refine wp_loop_rounds 1 ?_
 rw [rounds_succ]
 go_wp2
 go_ret
 exact ⟨rfl,rfl⟩
end
section
variable [AtQ]
set_option maxRecDepth 100000
def AP7:Atc := .seq (.ops [po_ 2 (.mov (ci_ 0))] [0])
 (.seq (.ops [so_ 3 (.alloc (.val (.int .i64 ((0:Nat):Int))))] [0,3])
 (.seq (.block 0 (.seq (.ops [mv_ 5 0,po_ 6 (.eqN 1 (.t 5) (.c .nilIface) false),mv_ 4 6] [0,3,4])
 (.cond (.t 4)
 (.seq (.ops [po_ 2 (.mov (ci_ 0))] [2])
  (.ret))
 (.seq (.ops [mv_ 8 0,po_ 9 (.iface 53 (.t 3)),so_ 10 (.call 18 [.t 8,.t 9]),mv_ 7 10] [3,7])
  (.cond (.t 7)
  (.seq (.ops [po_ 11 (.load false 1 (.t 3)),mv_ 2 11] [2])
   (.ret))
  (.skip))))))
 (.seq (.ops [po_ 2 (.mov (.c (.int .i64 (-1))))] [2])
 (.ret))))
def AP5:List VR:=[.tmp 2]
theorem AVv:Tryd.f8.body.bind (trC Tryd.prog Tryd.f8.ntmps)=some (er AP7):=by kernel_rfl
theorem AWg:trR Tryd.prog Tryd.f8.results.toList=some AP5:=by kernel_rfl
def AST:=As8 AP7.eq_1
theorem ASR {K:TV→Prop} {e:Env} {H:List Ob}:res AP5 e H K=res [.tmp 2] e H K:=As9 rfl
def AMm:=(And.intro @AST @ASR)
def AO0:=Awn 12 Tryd.func8 AVv AWg rfl
def AHs:Atc := .seq (.ops [mv_ 13 4,mv_ 14 3,po_ 15 (.idxA 1 (.t 13) (.t 14)),⟨none,.s (.store 1 (.t 15) (.c (.int .u8 ((71:Nat):Int)))),none⟩] [3,4])
 (.seq (.ops [mv_ 16 4,mv_ 17 3,po_ 18 (.bin 3 .add (.t 17) (ci_ 1)),po_ 19 (.idxA 1 (.t 16) (.t 18)),⟨none,.s (.store 1 (.t 19) (.c (.int .u8 ((72:Nat):Int)))),none⟩] [3,4])
 (.seq (.ops [mv_ 20 4,mv_ 21 3,po_ 22 (.slV 1 (.t 20) none (some (.t 21))),mv_ 2 22] [2])
 (.ret)))
def AG3:Atc := .seq (.ops [mv_ 10 4,mv_ 11 0,so_ 12 (.copy 1 (.t 10) (.t 11))] [3,4])
 AHs
def AHH:Atc := .seq (.ops [mv_ 7 3,po_ 8 (.bin 3 .add (.t 7) (ci_ 2)),so_ 9 (.mks 1 1 (.val (.int .u8 ((0:Nat):Int))) (.t 8) (.t 8)),mv_ 4 9] [0,3,4])
 AG3
def AGl:Atc := .seq (.ops [mv_ 5 0,po_ 6 (.lenV (.t 5)),mv_ 3 6] [0,3])
 AHH
def ANs:Atc := .seq (.ops [po_ 2 (.mov (.c (.slice none 0 0)))] [0])
 AGl
def ANf:List VR:=[.tmp 2]
theorem AS6:Tryd.f19.body.bind (trC Tryd.prog Tryd.f19.ntmps)=some (er ANs):=by kernel_rfl
theorem AR8:trR Tryd.prog Tryd.f19.results.toList=some ANf:=by kernel_rfl
def AMP:=As8 AHs.eq_1
def AMi:=As8 AG3.eq_1
def AMJ:=As8 AHH.eq_1
def AMl:=As8 AGl.eq_1
def AP0:=As8 ANs.eq_1
theorem APY {K:TV→Prop} {e:Env} {H:List Ob}:res ANf e H K=res [.tmp 2] e H K:=As9 rfl
def ATm:=(And.intro (And.intro (And.intro @AMP @AMi) (And.intro @AMJ @AMl)) (And.intro @AP0 @APY))
def AQT:=Awn 23 Tryd.func19 AS6 AR8 rfl
def AGk:Atc := .seq (.seq (.ops [mv_ 36 8,mv_ 37 6,po_ 38 (.lenV (.t 37)),po_ 39 (.bin 3 .lss (.t 36) (.t 38))] [6,7,8,39])
 (.cond (.t 39)
 (.skip)
 (.exit 0)))
 (.seq (.block 1 (.ops [mv_ 42 6,mv_ 43 8,mv_ 44 6,mv_ 45 8,po_ 46 (.idxA 1 (.t 44) (.t 45)),po_ 47 (.load false 1 (.t 46)),po_ 48 (.bin 5 .xor (.t 47) (.c (.int .u8 ((85:Nat):Int)))),po_ 49 (.idxA 1 (.t 42) (.t 43)),⟨none,.s (.store 1 (.t 49) (.t 48)),none⟩] [6,7,8]))
 (.ops [mv_ 40 8,po_ 41 (.bin 3 .add (.t 40) (ci_ 1)),mv_ 8 41] [6,7,8]))
def AGT:Atc := .block 0 (.loop [6,7,8] AGk)
def AGY:Atc := .seq (.ops [mv_ 50 7,mv_ 4 50] [4])
 (.ret)
def AGG:Atc := .seq (.seq (.ops [po_ 8 (.mov (ci_ 0))] [6,7,8])
 AGT)
 AGY
def AHc:Atc := .seq (.ops [mv_ 20 7,mv_ 21 20,⟨some 22,.p (.mov (.t 6)),some ⟨21,true⟩⟩,⟨some 23,.p (.mov (.t 5)),some ⟨21,true⟩⟩,⟨some 24,.p (.idxA 1 (.t 22) (.t 23)),some ⟨21,true⟩⟩,⟨some 25,.p (.load false 1 (.t 24)),some ⟨21,true⟩⟩,⟨some 26,.p (.bin 5 .eql (.t 25) (.c (.int .u8 ((71:Nat):Int)))),some ⟨21,true⟩⟩,po_ 27 (.pick (.t 21) (.t 26) (.c (.bool false))),mv_ 28 27,⟨some 29,.p (.mov (.t 6)),some ⟨28,true⟩⟩,⟨some 30,.p (.mov (.t 5)),some ⟨28,true⟩⟩,⟨some 31,.p (.bin 3 .add (.t 30) (ci_ 1)),some ⟨28,true⟩⟩,⟨some 32,.p (.idxA 1 (.t 29) (.t 31)),some ⟨28,true⟩⟩,⟨some 33,.p (.load false 1 (.t 32)),some ⟨28,true⟩⟩,⟨some 34,.p (.bin 5 .eql (.t 33) (.c (.int .u8 ((72:Nat):Int)))),some ⟨28,true⟩⟩,po_ 35 (.pick (.t 28) (.t 34) (.c (.bool false))),mv_ 7 35] [6,7])
 AGG
def AHd:Atc := .seq (.ops [mv_ 15 6,mv_ 16 5,po_ 17 (.slV 1 (.t 15) none (some (.t 16))),mv_ 18 1,so_ 19 (.call 7 [.t 17,.t 18]),mv_ 7 19] [5,6,7])
 AHc
def AGJ:Atc := .seq (.ops [mv_ 11 0,mv_ 12 5,po_ 13 (.bin 3 .add (.t 12) (ci_ 2)),po_ 14 (.slV 1 (.t 11) none (some (.t 13))),mv_ 6 14] [1,5,6])
 AHd
def AGV:Atc := .seq (.ops [mv_ 9 1,po_ 10 (.lenV (.t 9)),mv_ 5 10] [0,1,5])
 AGJ
def ANw:Atc := .seq (.ops [po_ 4 (.mov (.c (.bool false)))] [0,1])
 AGV
def AM7:List VR:=[.tmp 4]
theorem ASX:Tryd.f21.body.bind (trC Tryd.prog Tryd.f21.ntmps)=some (er ANw):=by kernel_rfl
theorem ASv:trR Tryd.prog Tryd.f21.results.toList=some AM7:=by kernel_rfl
def AML:=As8 AGk.eq_1
def AMp:=As8 AGT.eq_1
def AMy:=As8 AGY.eq_1
def AMN:=As8 AGG.eq_1
def AMs:=As8 AHc.eq_1
def ALX:=As8 AHd.eq_1
def ALU:=As8 AGJ.eq_1
def AMF:=As8 AGV.eq_1
def APS:=As8 ANw.eq_1
theorem APQ {K:TV→Prop} {e:Env} {H:List Ob}:res AM7 e H K=res [.tmp 4] e H K:=As9 rfl
def ACi:=(And.intro (And.intro (And.intro (And.intro @AML @AMp) (And.intro @AMy @AMN)) (And.intro (And.intro @AMs @ALX) (And.intro @ALU @AMF))) (And.intro @APS @APQ))
def AQz:=Awn 51 Tryd.func21 ASX ASv rfl
def AIZ:Atc := .seq (.block 1 (.seq (.draw 4 [mv_ 17 0,mv_ 18 5,po_ 19 (.idxA 1 (.t 17) (.t 18)),po_ 20 (.load false 1 (.t 19)),mv_ 21 1,mv_ 22 5,po_ 23 (.idxA 1 (.t 21) (.t 22)),po_ 24 (.load false 1 (.t 23)),po_ 25 (.bin 5 .neq (.t 20) (.t 24))] [0,1,5,25])
 (.cond (.t 25)
 (.seq (.ops [po_ 4 (.mov (.c (.bool false)))] [4])
  (.ret))
 (.skip))))
 (.ops [mv_ 15 5,po_ 16 (.bin 3 .add (.t 15) (ci_ 1)),mv_ 5 16] [0,1,5])
def AIT:Atc := .seq (.seq (.ops [mv_ 11 5,mv_ 12 0,po_ 13 (.lenV (.t 12)),po_ 14 (.bin 3 .lss (.t 11) (.t 13))] [0,1,5,14])
 (.cond (.t 14)
 (.skip)
 (.exit 0)))
 AIZ
def AID:Atc := .block 0 (.loop [0,1,5] AIT)
def AIL:Atc := .seq (.ops [po_ 4 (.mov (.c (.bool true)))] [4])
 (.ret)
def AIV:Atc := .seq (.seq (.ops [po_ 5 (.mov (ci_ 0))] [0,1,5])
 AID)
 AIL
def AIN:Atc := .seq (.seq (.ops [mv_ 6 0,po_ 7 (.lenV (.t 6)),mv_ 8 1,po_ 9 (.lenV (.t 8)),po_ 10 (.bin 3 .neq (.t 7) (.t 9))] [0,1,10])
 (.cond (.t 10)
 (.seq (.ops [po_ 4 (.mov (.c (.bool false)))] [4])
  (.ret))
 (.skip)))
 AIV
def AOo:Atc := .seq (.ops [po_ 4 (.mov (.c (.bool false)))] [0,1])
 AIN
def AO7:List VR:=[.tmp 4]
theorem ATI:Tryd.f7.body.bind (trC Tryd.prog Tryd.f7.ntmps)=some (er AOo):=by kernel_rfl
theorem ATE:trR Tryd.prog Tryd.f7.results.toList=some AO7:=by kernel_rfl
def ANz:=As8 AIZ.eq_1
def ANA:=As8 AIT.eq_1
def AN7:=As8 AID.eq_1
def ANU:=As8 AIL.eq_1
def ANQ:=As8 AIV.eq_1
def ANZ:=As8 AIN.eq_1
def ARo:=As8 AOo.eq_1
theorem AQ4 {K:TV→Prop} {e:Env} {H:List Ob}:res AO7 e H K=res [.tmp 4] e H K:=As9 rfl
def ABs:=(And.intro (And.intro (And.intro @ANz @ANA) (And.intro @AN7 @ANU)) (And.intro (And.intro @ANQ @ANZ) (And.intro @ARo @AQ4)))
def ASb:=Awn 26 Tryd.func7 ATI ATE rfl
end
section
open Go.RowKit
variable [AtQ] [AwB]
theorem AGc.refl {F:Nat→Prop} {w:World} (h:∀ b,F b→b<w.heap.size):AGc F w F w:=⟨rfl,rfl,rfl,Nat.le_refl _,fun _ _=>rfl,fun _ h=>h,fun _ _ h=>h,h⟩
theorem AGc.alloc {F F':Nat→Prop} {w w':World} (h:AGc F w F' w') (o:Obj):AGc F w F' (w'.alloc o) :=
 ⟨h.os,h.tape,h.output,by have:=h.size; simp; omega,fun b hb=>(AvB w' o (Nat.lt_of_lt_of_le hb h.size)).trans (h.same b hb),h.keepF,h.oldF,fun b hb=>by have:=h.ltF b hb; simp; omega⟩
abbrev eno (n:Int):TV := .ifc 38 (i64 n)
theorem A06 {n:Int} {id ver:Nat} {p:List (Nat×Nat)} {x x':TV} {H:List Ob} {K:TV→List Ob→Prop} (ho:H[id]?=some (.obj ver x)) (hs2:AI8 p x (i64 n)=some x') (hk:K (tb true) (H.set id (.obj ver x'))) :
  Atj Tryd.prog 18 [eno n,.ifc 53 (.op id ver p)] H K:=by
 intro β F w vs hs hv
 obtain ⟨u,us,rfl,h1,h2⟩:=Aue.cons.1 hv
 obtain ⟨u2,us2,rfl,h3,h4⟩:=Aue.cons.1 h2
 rw [Aue.nil] at h4; subst h4
 -- the two arguments
 have e1:u = .iface 38 (.int .i64 n):=by
  rcases h1 with h | h | ⟨xs0,h,rfl⟩
  ·cases h
  ·cases h
  ·rw [Ath] at h
   obtain ⟨v,rfl,vs,h,rfl⟩:=h
   rw [Ath] at h
   obtain ⟨rfl,_⟩:=h
   rfl
 obtain ⟨b,o,hbo,rfl⟩:∃ b o,β id ver=some (b,o)∧u2 = .iface 53 (.pointer (some ⟨b,o+Axp p,none⟩)):=by
  rcases h3 with h | h | ⟨xs0,h,rfl⟩
  ·cases h
  ·cases h
  ·rw [Ath] at h
   obtain ⟨v,rfl,vs,h,rfl⟩:=h
   rw [Ath] at h
   obtain ⟨_,b,o,hb,rfl⟩:=h
   exact ⟨b,o,hb,rfl⟩
 subst e1
 have hgl:=hs.glob.at AwB.k
 have hg:w.cell? ⟨0,0,none⟩=some (.iface 100 (.agg #[.pointer (some ⟨4,25,none⟩)])):=hgl 0 _ rfl
 have hrow:∀ c w,Ath c w (i64 n) [.int .i64 n]:=fun c w=>by rw [Ath]; exact ⟨rfl,rfl⟩
 obtain ⟨_,_,ht⟩:=hs.store ho hbo hs2 (hrow _ _)
 obtain ⟨t1,t2⟩:=ht 0 (by simp)
 obtain ⟨old,hold⟩:=Option.isSome_iff_exists.1 t1
 refine (A8d n ⟨b,o+Axp p,none⟩ old w hg hold t2).mono ?_
 rintro e w' ⟨rfl,rfl⟩
 have hst:=((((AGc.refl (F:=F) hs.lt).alloc (.cells #[.pointer (some ⟨b,o+Axp p,none⟩)] 53)).alloc (.cells #[.pointer (some ⟨4,53,none⟩),.pointer (some ⟨w.heap.size,0,none⟩),.int .u64 150] 76)).alloc (.cells #[.pointer (some ⟨4,53,none⟩),.pointer (some ⟨w.heap.size,0,none⟩),.int .u64 150] 76)).alloc (.cells #[.int .i64 n] 38)
 obtain ⟨k1,k2,_⟩:=(hst.sim hs).store ho hbo hs2 (hrow _ _)
 exact ⟨_,tb true,β,_,F,rfl,hk,k1,hst.later.trans k2,Rep.of_val⟩
theorem BdX {n:Int}:Auk Tryd.prog 8 [eno n] (fun x=>x=i64 n):=by
 refine Atj.toPureV (AO0 (by simp) ?_)
 simp -dsimp (disch:=first | assumption | omega) only [↓Atf,Atb,Atd,Ate,eq_self,Nat.reduceEqDiff,↓reduceIte,reduceCtorEq,↓AMm]
 refine A06 (x:=i64 ((0:Nat):Int)) (x':=i64 n) rfl (by rw [AVh]; rfl) ?_
 simp -dsimp (disch:=first | assumption | omega) only [↓Atf,Atb,Atd,Ate,eq_self,Nat.reduceEqDiff,↓reduceIte,reduceCtorEq,↓AMm]
theorem A8X:Auk Tryd.prog 8 [.val .nilIface] (fun x=>x=i64 ((0:Nat):Int)):=by
 refine Atj.toPureV (AO0 (by simp) ?_)
 simp -dsimp (disch:=first | assumption | omega) only [↓Atf,Atb,Atd,Ate,eq_self,Nat.reduceEqDiff,↓reduceIte,reduceCtorEq,↓AMm]
end
section
open Go.RowKit
variable [AtQ]
theorem A6Y (e:EnJ):Auk Tryd.prog 25 [enJ e] (fun r=>r=tb (Aun e)):=by
 refine Atj.toPureV (AOy (by simp) ?_)
 rw [Axc]
 unfold Aun
 generalize e.mode=m
 generalize e.size=s
 generalize e.stage=g
 have tail:∀ b:Bool,vwp Tryd.prog AAi (ABL ACK fun x H'=>Auf (Ayp H' (AU1 H' 2) x) (fun r=>r=tb (b && decide (0≤s∧s≤100000) && decide (0≤g∧g≤3)))) [(1,.op 0 0 []),(3,tb b)] [.obj 0 (.agg [ts e.path,i64 m,.arr 20 1 (e.id.map by8),i64 s,i64 g])]:=by
  intro b
  cases b with
  | false =>
   simp -dsimp (disch:=first | assumption | omega | (simp only [Ata];try omega)) only [↓Atf,Atb,Atd,Ate,eq_self,Nat.reduceEqDiff,↓reduceIte,↓AuP,↓Awu]
   rfl
  | true =>
   by_cases h4:0≤s
   ·by_cases h5:s≤100000
    ·by_cases h6:0≤g
     ·by_cases h7:g≤3
      ·simp -dsimp (disch:=first | assumption | omega | (simp only [Ata];try omega)) only [↓Atf,Atb,Atd,Ate,eq_self,Nat.reduceEqDiff,↓reduceIte,Nat.reduceAdd,↓AuP,↓Awu]
       simp [h4,h5,h6,h7]
      ·simp -dsimp (disch:=first | assumption | omega | (simp only [Ata];try omega)) only [↓Atf,Atb,Atd,Ate,eq_self,Nat.reduceEqDiff,↓reduceIte,Nat.reduceAdd,↓AuP,↓Awu]
       simp [h4,h5,h6,h7]
     ·simp -dsimp (disch:=first | assumption | omega | (simp only [Ata];try omega)) only [↓Atf,Atb,Atd,Ate,eq_self,Nat.reduceEqDiff,↓reduceIte,Nat.reduceAdd,↓AuP,↓Awu]
      simp [h4,h5,h6]
    ·simp -dsimp (disch:=first | assumption | omega | (simp only [Ata];try omega)) only [↓Atf,Atb,Atd,Ate,eq_self,Nat.reduceEqDiff,↓reduceIte,Nat.reduceAdd,↓AuP,↓Awu]
     simp [h4,h5]
   ·simp -dsimp (disch:=first | assumption | omega | (simp only [Ata];try omega)) only [↓Atf,Atb,Atd,Ate,eq_self,Nat.reduceEqDiff,↓reduceIte,Nat.reduceAdd,↓AuP,↓Awu]
    simp [h4]
 by_cases h1:m=33188
 ·have hb:(decide (m=33188) || decide (m=33261) || decide (m=40960))=true:=by simp [h1]
  rw [hb]
  have:=tail true
  simp -dsimp (disch:=first | assumption | omega | (simp only [Ata];try omega)) only [↓Atf,Atb,Atd,Ate,eq_self,Nat.reduceEqDiff,↓reduceIte,Nat.reduceAdd,↓AA0,↓Ayj]
  exact this
 by_cases h2:m=33261
 ·have hb:(decide (m=33188) || decide (m=33261) || decide (m=40960))=true:=by simp [h2]
  rw [hb]
  have:=tail true
  simp -dsimp (disch:=first | assumption | omega | (simp only [Ata];try omega)) only [↓Atf,Atb,Atd,Ate,eq_self,Nat.reduceEqDiff,↓reduceIte,Nat.reduceAdd,↓AA0,↓Ayj]
  exact this
 have hb:(decide (m=33188) || decide (m=33261) || decide (m=40960))=decide (m=((40960:Nat):Int)):=by simp [h1,h2]
 rw [hb]
 have:=tail (decide (m=((40960:Nat):Int)))
 simp -dsimp (disch:=first | assumption | omega | (simp only [Ata];try omega)) only [↓Atf,Atb,Atd,Ate,eq_self,Nat.reduceEqDiff,↓reduceIte,Nat.reduceAdd,↓AA0,↓Ayj]
 exact this
theorem Bdo (s:List UInt8):Auk Tryd.prog 24 [ts s] (fun x=>x=tb (Atp s)):=by
 by_cases h:s.length≤20000
 ·exact A5O s h
 ·refine Atj.toPureV (AGB (by simp) ?_)
  have h1:100<s.length:=by omega
  have h2:Atp s=false:=by unfold Atp; simp; omega
  rw [h2]
  simp -dsimp (disch:=first | assumption | omega | (simp only [Ata];try omega)) only [↓Atf,Atb,Atd,Ate,eq_self,Nat.reduceEqDiff,↓reduceIte,reduceCtorEq,AtL,↓AvT]
theorem A8N (s:List UInt8):Auk Tryd.prog 32 [ts s] (fun x=>x=tb (Atp s)):=by
 by_cases h:s.length≤20000
 ·exact AWp s h
 ·refine Atj.toPureV (AIR (by simp) ?_)
  have h1:100<s.length:=by omega
  have h2:Atp s=false:=by unfold Atp; simp; omega
  rw [h2]
  simp -dsimp (disch:=first | assumption | omega | (simp only [Ata];try omega)) only [↓Atf,Atb,Atd,Ate,eq_self,↓reduceIte,reduceCtorEq,AtL,↓AvQ]
theorem AO4 (c:UInt8):∀ l:List UInt8,∃ p ps,Au3 c (l++[c])=p::ps∧[]∈ps
 | []=>⟨[],[[]],by simp [Au3],by simp⟩
 | b::l=>by
  obtain ⟨p,ps,h1,h2⟩:=AO4 c l
  rw [List.cons_append,Au3]
  split
  ·exact ⟨[],_,rfl,by rw [h1]; exact List.mem_cons_of_mem _ h2⟩
  ·rw [h1]; exact ⟨b::p,ps,rfl,h2⟩
theorem ABA {s:List UInt8} (h:Atp s=true):s.length≤100∧s.getLast?≠some 47:=by
 unfold Atp at h
 rw [Bool.and_eq_true,decide_eq_true_eq,List.all_eq_true] at h
 refine ⟨h.1,fun e => ?_⟩
 obtain ⟨l,rfl⟩:∃ l,s=l++[47]:=by
  obtain ⟨h1,h2⟩:=List.getLast?_eq_some_iff.1 e
  exact ⟨_,h2⟩
 obtain ⟨p,ps,h1,h2⟩:=AO4 47 l
 have:=h.2 [] (by rw [h1]; exact List.mem_cons_of_mem _ h2)
 simp [Ayv] at this
end
section
open Go.RowKit
variable [AtQ]
def erJ (c:Nat):TV:=if c=0 then .val .nilIface else eno (c:Int)
theorem A9q:erJ 0 = .val .nilIface:=by simp [erJ]
theorem AWe {c:Nat} (h:c≠0):erJ c=eno (c:Int):=by simp [erJ,h]
theorem Aya (e:EnJ):ABl [(0,0)] (enJ e)=some (ts e.path):=by rw [Axc]; simp [ABl,Aut]
theorem ADX (e:EnJ):ABl [(4,23)] (enJ e)=some (i64 e.stage):=by rw [Axc]; simp [ABl,Aut,Atq]
theorem AWL {l:List EnJ} {H:List Ob} {K:TV→List Ob→Prop} (hl:l.length≤100000) (hno:(l.any fun e => !Atp e.path)=true→∀ H',K (eno ((71:Nat):Int)) H') (hyes:(∀ e∈l,Atp e.path=true)→∀ G T,vwp Tryd.prog AAr (ABL Aw4 K) ((0,.sl 24 (l.map enJ))::G) (H++T)) :
  vwp Tryd.prog AAl (ABL Aw4 K) [(0,.sl 24 (l.map enJ))] H:=by
 simp -dsimp (disch:=first | assumption | omega | (simp only [Ata];try omega)) only [↓Atf,Atb,Atd,Ate,eq_self,Nat.reduceEqDiff,↓reduceIte,reduceCtorEq,↓AJH,↓ALp]
 refine At5 (fun c e H'=>∃ (i:Nat) (T:List Ob),c=l.length - i∧i≤l.length∧(∀ j x,j<i→l[j]?=some x→Atp x.path=true)∧e=[(0,.sl 24 (l.map enJ)),(12,.sl 24 (l.map enJ)),(13,i64 (l.length:Int)),(14,i64 (i:Int))]∧H'=H++T) l.length ?_ ?_
 ·exact ⟨0,[],rfl,by omega,by omega,rfl,by simp⟩
 ·rintro c e H' ⟨i,T,rfl,hi,hp,rfl,rfl⟩
  by_cases h:i<l.length
  case neg =>
   have:=hyes (fun e he=>by obtain ⟨j,hj,rfl⟩:=List.mem_iff_getElem.1 he; exact hp j _ (by omega) (List.getElem?_eq_getElem hj))
   simp -dsimp (disch:=first | assumption | omega | (simp only [Ata];try omega)) only [↓Atf,Atb,Atd,Ate,eq_self,Nat.reduceEqDiff,↓reduceIte,reduceCtorEq,↓AB8]
   exact this _ T
  obtain ⟨x,hx⟩:∃ x,l[i]?=some x:=⟨_,List.getElem?_eq_getElem h⟩
  simp -dsimp (disch:=first | assumption | omega | (simp only [Ata];try omega)) only [↓Atf,Atb,Atd,Ate,eq_self,Nat.reduceEqDiff,↓reduceIte,Nat.reduceAdd,reduceCtorEq,↓AB8,hx,Axb,Azv,AEt,Aya]
  refine AwK ((Bdo x.path).calls rfl fun r hr => ?_)
  subst hr
  cases hpx:Atp x.path with
  | false =>
   have:=hno (by rw [List.any_eq_true]; exact ⟨x,List.mem_of_getElem? hx,by rw [hpx]; rfl⟩)
   simp -dsimp (disch:=first | assumption | omega | (simp only [Ata];try omega)) only [↓Atf,Atb,Atd,Ate,eq_self,Nat.reduceEqDiff,↓reduceIte,reduceCtorEq,↓AwM]
   exact this _
  | true =>
   simp -dsimp (disch:=first | assumption | omega | (simp only [Ata];try omega)) only [↓Atf,Atb,Atd,Ate,eq_self,Nat.reduceEqDiff,↓reduceIte,reduceCtorEq]
   refine Atk (l.length - (i+1)) (by omega) (by simp) ⟨i+1,T++[_],rfl,by omega,fun j y hj hy => ?_,rfl,by rw [List.append_assoc]⟩
   by_cases e:j=i
   ·subst e; rw [hx] at hy; cases hy; exact hpx
   ·exact hp j y (by omega) hy
theorem A0z {l:List EnJ} {y x:EnJ}:AN2 (l++[y])→¬ A7B y x→AN2 (l++[y]++[x]):=by
 induction l with
 | nil=>intro _ h; exact ⟨h,trivial⟩
 | cons z l ih =>
  intro h1 h2
  cases l with
  | nil=>exact ⟨h1.1,h2,trivial⟩
  | cons w l=>exact ⟨h1.1,ih h1.2 h2⟩
theorem A5x {l r:List EnJ} {y x:EnJ}:AN2 (l++y::x::r)→¬ A7B y x:=by
 induction l with
 | nil=>intro h; exact h.1
 | cons z l ih =>
  intro h
  cases l with
  | nil=>exact ih h.2
  | cons w l=>exact ih h.2
theorem A1v {s:List EnJ} {x0:TV} {H:List Ob} {K:TV→List Ob→Prop} (hl:s.length≤100000) (hno:¬ ((∀ e∈s,Aun e=true)∧AN2 s)→∀ H',K (eno ((70:Nat):Int)) H')
  (hyes:(∀ e∈s,Aun e=true)→AN2 s→∀ es H' E,AZy es (s.map (·.path))→H'[H.length]?=some (.mpo .str es)→get E 0=x0→get E 6 = .mp H.length 0→vwp Tryd.prog AxT (ABL Aw4 K) E H') :
  vwp Tryd.prog AAb (ABL Aw4 K) [(0,x0),(5,.sl 24 (s.map enJ))] H:=by
 simp -dsimp (disch:=first | assumption | omega | (simp only [Ata];try omega)) only [↓Atf,Atb,Atd,Ate,eq_self,Nat.reduceEqDiff,↓reduceIte,reduceCtorEq,↓AJs,↓AJD,↓AKW]
 refine At5 (fun c e H'=>∃ (i:Nat) (es:List (List UInt8×TV)),c=s.length - i∧i≤s.length∧(∀ j x,j<i→s[j]?=some x→Aun x=true)∧AN2 (s.take i)∧AZy es ((s.take i).map (·.path))∧H.length<H'.length∧H'[H.length]?=some (.mpo .str es) ∧
  e=[(0,x0),(5,.sl 24 (s.map enJ)),(6,.mp H.length 0),(29,.sl 24 (s.map enJ)),(30,i64 (s.length:Int)),(31,i64 (i:Int))]) s.length ?_ ?_
 ·exact ⟨0,[],rfl,by omega,by omega,trivial,AZy.nil,by simp,by simp,rfl⟩
 ·rintro c e H' ⟨i,es,rfl,hi,hg,ha,hs,hl2,hm,rfl⟩
  by_cases h:i<s.length
  case neg =>
   have hie:s.take i=s:=List.take_of_length_le (by omega)
   rw [hie] at ha hs
   have:=hyes (fun e he=>by obtain ⟨j,hj,rfl⟩:=List.mem_iff_getElem.1 he; exact hg j _ (by omega) (List.getElem?_eq_getElem hj)) ha es H'
   simp -dsimp (disch:=first | assumption | omega | (simp only [Ata];try omega)) only [↓Atf,Atb,Atd,Ate,eq_self,Nat.reduceEqDiff,↓reduceIte,reduceCtorEq,↓ABQ,↓ABR]
   exact this _ hs hm rfl rfl
  obtain ⟨x,hx⟩:∃ x,s[i]?=some x:=⟨_,List.getElem?_eq_getElem h⟩
  have hxm:=List.mem_of_getElem? hx
  have hsucc:s.take (i+1)=s.take i++[x]:=by
   obtain ⟨_,rfl⟩:=List.getElem?_eq_some_iff.1 hx
   exact List.take_succ_eq_append_getElem h
  have hC:∀ o:Ob,(H'++[o])[H'.length]?=some o:=fun o=>by simp
  have hCs:∀ o o2:Ob,(H'++[o]).set H'.length o2=H'++[o2]:=fun o o2=>by simp
  have hM:∀ o:Ob,(H'++[o])[H.length]?=some (.mpo .str es):=fun o=>by rw [List.getElem?_append_left hl2]; exact hm
  have hsg:=A6Y x
  simp -dsimp (disch:=first | assumption | omega | (simp only [Ata];try omega)) only [↓Atf,Atb,Atd,Ate,eq_self,Nat.reduceEqDiff,↓reduceIte,Nat.reduceAdd,reduceCtorEq,↓ABQ,↓ABR,↓ALh,↓AKn,hx,hC,hCs,Axb,Azv,AGt,AEt]
  refine ⟨tb (Aun x),hsg.calls (by simp [Aud,AAw]) fun r hr=>⟨hr,rfl⟩,?_⟩
  cases hgx:Aun x with
  | false =>
   have:=hno fun k=>by have:=k.1 x hxm; rw [hgx] at this; cases this
   simp -dsimp (disch:=first | assumption | omega | (simp only [Ata];try omega)) only [↓Atf,Atb,Atd,Ate,eq_self,Nat.reduceEqDiff,↓reduceIte,reduceCtorEq,↓AwM]
   exact this _
  | true =>
   have hg':∀ j y,j<i+1→s[j]?=some y→Aun y=true:=fun j y hj hy=>by
    by_cases e:j=i
    ·subst e; rw [hx] at hy; cases hy; exact hgx
    ·exact hg j y (by omega) hy
   have hcl:=hs.cnt x.path
   have hadd:=hs.add x.path
   have hcount:((s.take i).map (·.path)).count x.path≤i:=by
    have:=List.count_le_length (a:=x.path) (l:=(s.take i).map (·.path)); rw [List.length_map,List.length_take] at this; omega
   have hts:(s.take i).map (·.path)++[x.path]=(s.take (i+1)).map (·.path):=by rw [hsucc]; simp
   rw [hts] at hadd
   have hS0:∀ (o o2:Ob),(H'.set H.length o2++[o])[H.length]?=some o2:=fun o o2=>by rw [List.getElem?_append_left (by simpa using hl2),List.getElem?_set_self hl2]
   have hE:(H'++[Ob.obj 0 (enJ x)])[H'.length]?=some (Ob.obj 0 (enJ x)):=hC _
   generalize ((s.take i).map (·.path)).count x.path=n at *
   by_cases hi0:i=0
   ·subst hi0
    have ha1:AN2 (s.take (0+1)):=by rw [hsucc]; exact trivial
    simp -dsimp (disch:=first | assumption | omega | (simp only [Ata];try omega)) only [↓Atf,Atb,Atd,Ate,eq_self,Nat.reduceLT,Nat.reduceEqDiff,↓reduceIte,reduceCtorEq,hM,hE,hcl,Aya]
    exact Atk (s.length - (0+1)) (by omega) (by simp; omega) ⟨0+1,_,rfl,by omega,hg',ha1,hadd,by simp; omega,hS0 _ _,rfl⟩
   ·obtain ⟨y,hy⟩:∃ y,s[i - 1]?=some y:=⟨_,List.getElem?_eq_getElem (by omega)⟩
    obtain ⟨p0,hp0⟩:∃ p0,s.take i=p0++[y]:=by
     refine ⟨s.take (i - 1),?_⟩
     obtain ⟨h1,h2⟩:=List.getElem?_eq_some_iff.1 hy
     have:=List.take_succ_eq_append_getElem h1
     rw [h2,show i - 1+1=i by omega] at this
     exact this
    have hdec:s=p0++y::x::s.drop (i+1):=by
     conv=>lhs; rw [←List.take_append_drop (i+1) s,hsucc,hp0]
     simp
    have bad:A7B y x→∀ H',K (eno ((70:Nat):Int)) H':=fun hb=>hno fun k=>by
     have:=k.2
     rw [hdec] at this
     exact A5x this hb
    have ok:¬ A7B y x→AN2 (s.take (i+1)):=fun hb=>by
     rw [hsucc,hp0]; rw [hp0] at ha
     exact A0z ha hb
    have hyJ:=Axc y
    have e1:IntKind.i64.wrap ((i:Int) - 1)=((i - 1:Nat):Int):=by rw [Ax7 (by omega) (by omega)]; omega
    by_cases c1:y.path=x.path
    ·by_cases c2:y.stage=x.stage
     ·have:=bad ⟨c1,.inl c2⟩
      simp -dsimp (disch:=first | assumption | omega | (simp only [Ata];try omega)) only [↓Atf,Atb,Atd,Ate,eq_self,Nat.reduceEqDiff,↓reduceIte,Nat.reduceAdd,reduceCtorEq,hE,hy,hyJ,c1,c2,Aya,ADX,↓AwM]
      exact this _
     ·by_cases c3:y.stage=0
      ·have:=bad ⟨c1,.inr c3⟩
       simp -dsimp (disch:=first | assumption | omega | (simp only [Ata];try omega)) only [↓Atf,Atb,Atd,Ate,eq_self,Nat.reduceEqDiff,↓reduceIte,Nat.reduceAdd,reduceCtorEq,hE,hy,hyJ,c1,c3,Aya,ADX,↓AwM]
       exact this _
      ·have ha1:=ok fun hb=>hb.2.elim c2 c3
       simp -dsimp (disch:=first | assumption | omega | (simp only [Ata];try omega)) only [↓Atf,Atb,Atd,Ate,eq_self,Nat.reduceEqDiff,↓reduceIte,Nat.reduceAdd,reduceCtorEq,hM,hE,hy,hyJ,c1,c2,hcl,Aya,ADX]
       exact Atk (s.length - (i+1)) (by omega) (by simp; omega) ⟨i+1,_,rfl,by omega,hg',ha1,hadd,by simp; omega,hS0 _ _,rfl⟩
    ·have ha1:=ok fun hb=>c1 hb.1
     simp -dsimp (disch:=first | assumption | omega | (simp only [Ata];try omega)) only [↓Atf,Atb,Atd,Ate,eq_self,Nat.reduceEqDiff,↓reduceIte,reduceCtorEq,hM,hE,hy,hyJ,c1,hcl,Aya]
     exact Atk (s.length - (i+1)) (by omega) (by simp; omega) ⟨i+1,_,rfl,by omega,hg',ha1,hadd,by simp; omega,hS0 _ _,rfl⟩
end
section
open Go.RowKit
variable [AtQ]
theorem ATf {k:List UInt8}:∀ {es:List (List UInt8×TV)},ABJ k es≠none→∃ (j:Nat) (v:TV),es[j]?=some (k,v)
 | [],h=>by simp [ABJ] at h
 | (q,x)::es,h=>by
  by_cases e:q=k
  ·subst e; exact ⟨0,x,rfl⟩
  ·rw [ABJ,if_neg e] at h
   obtain ⟨j,v,hj⟩:=ATf h
   exact ⟨j+1,v,by simpa using hj⟩
theorem AUF {k:List UInt8} {v:TV}:∀ {es:List (List UInt8×TV)} {j:Nat},es[j]?=some (k,v)→ABJ k es≠none
 | (q,x)::es,0,h=>by cases h; simp [ABJ]
 | (q,x)::es,j+1,h=>by
  rw [ABJ]
  split
  ·simp
  ·exact AUF (by simpa using h)
theorem AW7 {k:List UInt8}:kTV .str k=ts k:=by simp [kTV]
theorem APe {ps:List (List UInt8)} {p:List UInt8} {n m:Nat} (h:¬ AWs ps p n) (hm:∀ i,n≤i→i<m→¬ (p[i]?=some 47∧p.take i∈ps)):¬ AWs ps p m:=fun ⟨i,h1,h2⟩=>by
 by_cases e:i<n
 ·exact h ⟨i,e,h2⟩
 ·exact hm i (by omega) h1 h2
theorem A0F {ps:List (List UInt8)} {es:List (List UInt8×TV)} {p:List UInt8} {id0 si:Nat} {x86:TV} {H:List Ob} {Q:VEx→Env→List Ob→Prop} (hs:AZy es ps) (hp:p.length≤1000000)
  (h0:H[id0]?=some (.mpo .str es)) (hsi:H[si]?=some (.sit p 0)) (hne:si≠id0)
  (hno:AWs ps p p.length→∀ H',Q .ret [(2,eno ((71:Nat):Int))] H')
  (hyes:¬ AWs ps p p.length→∀ o G,Q .nor ((6,.mp id0 0)::(9,ts p)::(86,x86)::(92,.op si 0 [])::G) (H.set si o)) :
  vwp Tryd.prog AAd Q [(6,.mp id0 0),(9,ts p),(86,x86),(92,.op si 0 [])] H:=by
 have hsl:=(List.getElem?_eq_some_iff.1 hsi).1
 have hgg:∀ o:Ob,(H.set si o)[si]?=some o:=fun o=>List.getElem?_set_self hsl
 have hss:∀ a b:Ob,(H.set si a).set si b=H.set si b:=fun a b=>List.set_set ..
 have hg0:∀ o:Ob,(H.set si o)[id0]?=some (.mpo .str es):=fun o=>by rw [List.getElem?_set_ne hne]; exact h0
 have hH0:H=H.set si (.sit p 0):=by
  apply List.ext_getElem?
  intro j
  rw [List.getElem?_set]
  split
  ·rename_i e; subst e; first | exact hsi | (rw [if_pos hsl]; exact hsi)
  ·rfl
 simp -dsimp (disch:=first | assumption | omega | (simp only [Ata];try omega)) only [↓Atf,↓AJL]
 refine At5 (fun c e H'=>∃ pos:Nat,c=p.length - pos∧¬ AWs ps p pos∧e=[(6,.mp id0 0),(9,ts p),(86,x86),(92,.op si 0 [])]∧H'=H.set si (.sit p pos)) p.length ?_ ?_
 ·exact ⟨0,rfl,fun ⟨i,h,_⟩=>by omega,rfl,hH0⟩
 ·rintro c e H' ⟨pos,rfl,hd,rfl,rfl⟩
  by_cases h:pos<p.length
  case neg =>
   have hy:=hyes (fun k=>hd (by obtain ⟨i,k1,k2⟩:=k; exact ⟨i,by omega,k2⟩))
   simp -dsimp (disch:=first | assumption | omega | (simp only [Ata];try omega)) only [↓Atf,Atb,Atd,Ate,eq_self,Nat.reduceEqDiff,↓reduceIte,↓Av0,↓AwA,hgg]
   exact hy _ _
  obtain ⟨c,hc⟩:∃ c,p[pos]?=some c:=⟨_,List.getElem?_eq_getElem h⟩
  by_cases h7:c.toNat<128
  ·obtain ⟨d1,d2⟩:=ARd p pos c hc h7
   by_cases h47:c.toNat=47
   ·have hc47:c=47:=UInt8.toNat_inj.1 h47
    have hcl:=hs.cnt (p.take pos)
    by_cases hm:p.take pos∈ps
    ·have hn:=hno ⟨pos,h,by rw [hc,hc47],hm⟩
     have hcnt:0<ps.count (p.take pos):=List.count_pos_iff.2 hm
     simp -dsimp (disch:=first | assumption | omega | (simp only [Ata];try omega)) only [↓Atf,Atb,Atd,Ate,eq_self,Nat.reduceEqDiff,↓reduceIte,↓Av0,↓AwA,↓Axl,hgg,hss,hg0,AtL,d1,d2,h47,hcl]
     exact hn _
    ·have hcnt:ps.count (p.take pos)=0:=List.count_eq_zero.2 hm
     have hd2:¬ AWs ps p (pos+1):=APe hd fun i h1 h2 k=>by
      have e:i=pos:=by omega
      subst e
      exact hm k.2
     simp -dsimp (disch:=first | assumption | omega | (simp only [Ata];try omega)) only [↓Atf,Atb,Atd,Ate,eq_self,Nat.reduceLT,Nat.reduceEqDiff,↓reduceIte,↓Av0,↓AwA,↓Axl,hgg,hss,hg0,AtL,d1,d2,h47,hcl,hcnt]
     exact Atk (p.length - (pos+1)) (by omega) (by simp) ⟨pos+1,rfl,hd2,rfl,rfl⟩
   ·have hd2:¬ AWs ps p (pos+1):=APe hd fun i h1 h2 k=>by
     obtain rfl:i=pos:=by omega
     rw [hc] at k
     exact h47 (by have:=k.1; cases this; rfl)
    simp -dsimp (disch:=first | assumption | omega | (simp only [Ata];try omega)) only [↓Atf,Atb,Atd,Ate,eq_self,Nat.reduceEqDiff,↓reduceIte,↓Av0,↓AwA,↓Axl,hgg,hss,d1,d2,h47]
    exact Atk (p.length - (pos+1)) (by omega) (by simp) ⟨pos+1,rfl,hd2,rfl,rfl⟩
  ·obtain ⟨d1,d2,d3⟩:=AUS p pos c hc (by omega)
   have hd2:¬ AWs ps p (pos+(Utf8.decode (str p) pos).2):=APe hd fun i h1 h2 k=>by
    by_cases e:i=pos
    ·subst e; rw [hc] at k; have:=k.1; cases this; exact h7 (by decide)
    ·obtain ⟨q,q1,q2⟩:=AON (l:=p) (pos:=pos) (j:=i) (by omega) h2
     rw [q1] at k; have:=k.1; cases this; exact absurd q2 (by decide)
   generalize hrr:(Utf8.decode (str p) pos).1=r at *
   generalize hww:(Utf8.decode (str p) pos).2=w at *
   have hr47:¬ r=47:=by omega
   simp -dsimp (disch:=first | assumption | omega | (simp only [Ata];try omega)) only [↓Atf,Atb,Atd,Ate,eq_self,Nat.reduceEqDiff,↓reduceIte,↓Av0,↓AwA,↓Axl,hgg,hss,hrr,hww,hr47]
   exact Atk (p.length - (pos+w)) (by omega) (by simp) ⟨pos+w,rfl,hd2,rfl,rfl⟩
theorem A0l {ps:List (List UInt8)} {es:List (List UInt8×TV)} {l:List EnJ} {id0:Nat} {H:List Ob} {K:TV→List Ob→Prop} {E:Env} (hs:AZy es ps) (hp:∀ p∈ps,p.length≤1000000) (hl:l.length≤2000)
  (h0:H[id0]?=some (.mpo .str es)) (g0:get E 0 = .sl 24 (l.map enJ)) (g6:get E 6 = .mp id0 0)
  (hno:(∃ p∈ps,AWs ps p p.length)→∀ H',K (eno ((71:Nat):Int)) H') (hyes:(¬ ∃ p∈ps,AWs ps p p.length)→∀ H',K (.val .nilIface) H') :
  vwp Tryd.prog AxT (ABL Aw4 K) E H:=by
 have hl0:=(List.getElem?_eq_some_iff.1 h0).1
 have hnd:((Az2 0 es).map (·.1)).Nodup:=by rw [AHV]; exact List.nodup_range'
 simp -dsimp (disch:=first | assumption | omega | (simp only [Ata];try omega)) only [↓Atf,Atb,Atd,Ate,eq_self,Nat.reduceEqDiff,↓reduceIte,↓AJI,↓AJO,↓AJp,g0,g6,h0]
 refine At5 (fun c e H'=>∃ (sn:List Nat),c=es.length - sn.length∧sn.Nodup∧(∀ x∈sn,x<es.length)∧(∀ j p v,j∈sn→es[j]?=some (p,v)→¬ AWs ps p p.length)∧H.length<H'.length ∧
  H'[id0]?=some (.mpo .str es)∧H'[H.length]?=some (.mit id0 sn es.length)∧e=[(6,.mp id0 0),(86,.op H.length 0 [])]) es.length ?_ ?_
 ·exact ⟨[],rfl,List.nodup_nil,by simp,by simp,by simp,by rw [List.getElem?_append_left hl0]; exact h0,by simp,rfl⟩
 ·rintro c e H' ⟨sn,rfl,hsn,hsl,hdone,hlen,hm,hit,rfl⟩
  have hsnl:sn.length≤es.length:=by
   have:=List.Nodup.length_le_of_subset (l₁:=sn) (l₂:=List.range es.length) hsn fun x hx=>List.mem_range.2 (hsl x hx)
   simpa using this
  simp -dsimp (disch:=first | assumption | omega | (simp only [Ata];try omega)) only [↓Atf,Atb,Atd,Ate,eq_self,Nat.reduceEqDiff,↓reduceIte,↓AJb,hit,hm]
  refine AVw rfl (fun z hz => ?_) (fun z hz hzn => ?_) (fun hall => ?_)
  ·have:=(AS2 z hz).2; omega
  ·obtain ⟨j,hj⟩:=List.mem_iff_getElem?.1 hz
   rw [AMb] at hj
   obtain ⟨⟨p,v⟩,hjp,rfl⟩:=Option.map_eq_some_iff.1 hj
   rw [Nat.zero_add] at hz hzn ⊢
   have hjl:=(List.getElem?_eq_some_iff.1 hjp).1
   have hpm:p∈ps:=(hs.has p).1 (AUF hjp)
   have hent:AXJ (id0,sn++[j],es.length) (.str,Az2 0 es,es.length)=some (.tup [kTV .str p,v]):=AWb hnd hz
   rw [AW7] at hent
   simp only [AW7]
   have hne:H.length≠id0:=by omega
   have e3:(H'.set H.length (.mit id0 (sn++[j]) es.length))[H.length]?=some (.mit id0 (sn++[j]) es.length):=List.getElem?_set_self hlen
   have e4:(H'.set H.length (.mit id0 (sn++[j]) es.length))[id0]?=some (.mpo .str es):=by rw [List.getElem?_set_ne hne]; exact hm
   have hlen2:(H'.set H.length (.mit id0 (sn++[j]) es.length)).length=H'.length:=List.length_set ..
   generalize H'.set H.length (.mit id0 (sn++[j]) es.length)=H2 at *
   have hn2:(sn++[j]).Nodup:=by rw [List.nodup_append]; exact ⟨hsn,by simp,fun a ha b hb=>by rw [List.mem_singleton] at hb; subst hb; exact fun e=>hzn (e▸ha)⟩
   simp -dsimp (disch:=first | assumption | omega | (simp only [Ata];try omega)) only [↓Atf,Atb,Atd,Ate,eq_self,Nat.reduceEqDiff,↓reduceIte,e3,e4,hent,AtL,↓ABE,↓AJa,↓AI6]
   refine A0F (es:=es) (ps:=ps) (p:=p) hs (hp p hpm) (by rw [List.getElem?_append_left (by omega)]; exact e4) (by simp) (by omega) (fun hd H3 => ?_) (fun hd o G => ?_)
   ·have:=hno ⟨p,hpm,hd⟩
    simp -dsimp (disch:=first | assumption | omega | (simp only [Ata];try omega)) only [↓Atf,Atb,Ate,eq_self,↓reduceIte,↓AwM]
    exact this _
   ·simp -dsimp (disch:=first | assumption | omega | (simp only [Ata];try omega)) only [↓Atf,Atb,Ate]
    have hsub:∀ x∈sn++[j],x<es.length:=fun x hx=>by
     rcases List.mem_append.1 hx with hx | hx
     ·exact hsl x hx
     ·rw [List.mem_singleton] at hx; subst hx; exact hjl
    have hle:=List.Nodup.length_le_of_subset (l₁:=sn++[j]) (l₂:=List.range es.length) hn2 (fun x hx=>List.mem_range.2 (hsub x hx))
    rw [List.length_range,List.length_append,List.length_singleton] at hle
    refine Atk (es.length - (sn++[j]).length) (by rw [List.length_append,List.length_singleton]; omega) (by simp; omega) ⟨sn++[j],rfl,hn2,hsub,fun k q v' hk hq => ?_,by simp; omega,by rw [List.getElem?_append_left (by omega)]; exact e4,by rw [List.getElem?_append_left (by omega)]; exact e3,rfl⟩
    rcases List.mem_append.1 hk with hk | hk
    ·exact hdone k q v' hk hq
    ·rw [List.mem_singleton] at hk; subst hk
     rw [hjp] at hq; cases hq; exact hd
  ·have:=hyes fun ⟨p,hpm,hd⟩=>by
    obtain ⟨j,v,hj⟩:=ATf ((hs.has p).2 hpm)
    refine hdone j p v ?_ hj hd
    have hz:(j,(p,v))∈Az2 0 es:=List.mem_iff_getElem?.2 ⟨j,by rw [AMb,hj]; simp⟩
    exact hall _ hz
   simp -dsimp (disch:=first | assumption | omega | (simp only [Ata];try omega)) only [↓Atf,Atb,Atd,Ate,eq_self,Nat.reduceEqDiff,↓reduceIte,↓ABE,↓AJk,↓AwM]
   exact this _
theorem AU7 {l:List EnJ}:(∃ p∈l.map (·.path),AWs (l.map (·.path)) p p.length)↔(l.any fun x=>l.any fun y=>decide (AQf x y))=true:=by
 rw [List.any_eq_true]
 constructor
 ·rintro ⟨p,hp,hd⟩
  obtain ⟨y,hy,rfl⟩:=List.mem_map.1 hp
  obtain ⟨x,hx,hs⟩:=AUZ.2 hd
  exact ⟨x,hx,by rw [List.any_eq_true]; exact ⟨y,hy,by simpa using hs⟩⟩
 ·rintro ⟨x,hx,h⟩
  rw [List.any_eq_true] at h
  obtain ⟨y,hy,hs⟩:=h
  exact ⟨y.path,List.mem_map_of_mem hy,AUZ.1 ⟨x,hx,by simpa using hs⟩⟩
theorem Bam (l:List EnJ) (hl:l.length≤2000):Auk Tryd.prog 10 [.sl 24 (l.map enJ)] (fun r=>r=erJ (ACS Atp l)):=by
 refine Atj.toPureV (APF (by simp) ?_)
 have hsl:(AAu ltJ l).length=l.length:=(AuA l).length_eq
 have hpm:(AAu ltJ l).Perm l:=AuA l
 simp -dsimp (disch:=first | assumption | omega | (simp only [Ata];try omega)) only [↓Atf,Atb,Atd,Ate,eq_self,↓reduceIte,reduceCtorEq,↓AOl]
 refine AWL (by omega) (fun hbad H' => ?_) (fun hp G T => ?_)
 ·have e:ACS Atp l=71:=by unfold ACS; rw [if_pos hbad]
  rw [e,AWe (by decide)]
  simp -dsimp (disch:=first | assumption | omega | (simp only [Ata];try omega)) only [Atb,Atd,Ate,eq_self]
 ·have hnb:¬ (l.any fun e => !Atp e.path)=true:=by
   rw [List.any_eq_true]
   rintro ⟨x,hx,k⟩
   rw [hp x hx] at k; cases k
  simp -dsimp (disch:=first | assumption | omega | (simp only [Ata];try omega)) only [↓Atf,Atb,Atd,Ate,eq_self,↓reduceIte,↓AJm]
  refine AwK ((AZs l (by omega)).calls (by simp [Aud,AuQ]) fun r hr => ?_)
  subst hr
  simp -dsimp (disch:=first | assumption | omega | (simp only [Ata];try omega)) only [↓Atf,Atb,Atd,Ate,eq_self,↓reduceIte,reduceCtorEq]
  refine A1v (by omega) (fun hno H' => ?_) (fun hg ha es H' E hs hm g0 g6 => ?_)
  ·have hn:¬ (l.all Aun && decide (ABG l))=true:=by
    rw [Bool.and_eq_true,List.all_eq_true,decide_eq_true_eq]
    rintro ⟨k1,k2⟩
    exact hno ⟨fun e he=>k1 e (hpm.mem_iff.1 he),(AYL l k1).2 k2⟩
   have e:ACS Atp l=70:=by unfold ACS; rw [if_neg hnb,if_neg hn]
   rw [e,AWe (by decide)]
   simp -dsimp (disch:=first | assumption | omega | (simp only [Ata];try omega)) only [Atb,Atd,Ate,eq_self]
  ·have k1:∀ e∈l,Aun e=true:=fun e he=>hg e (hpm.mem_iff.2 he)
   have hy:(l.all Aun && decide (ABG l))=true:=by
    rw [Bool.and_eq_true,List.all_eq_true,decide_eq_true_eq]
    exact ⟨k1,(AYL l k1).1 ha⟩
   have hps:∀ p∈(AAu ltJ l).map (·.path),p.length≤1000000:=fun p hpp=>by
    obtain ⟨x,hx,rfl⟩:=List.mem_map.1 hpp
    have:=(ABA (hp x (hpm.mem_iff.1 hx))).1
    omega
   have hany:((AAu ltJ l).any fun x=>(AAu ltJ l).any fun y=>decide (AQf x y))=(l.any fun x=>l.any fun y=>decide (AQf x y)):=by
    have e1:∀ p:EnJ→Bool,(AAu ltJ l).any p=l.any p:=fun p=>by
     rw [Bool.eq_iff_iff,List.any_eq_true,List.any_eq_true]
     exact ⟨fun ⟨x,hx,k⟩=>⟨x,hpm.mem_iff.1 hx,k⟩,fun ⟨x,hx,k⟩=>⟨x,hpm.mem_iff.2 hx,k⟩⟩
    rw [e1]; congr 1; funext x; exact e1 _
   refine A0l hs hps hl hm g0 g6 (fun hd H2 => ?_) (fun hd H2 => ?_)
   ·rw [AU7,hany] at hd
    have e:ACS Atp l=71:=by unfold ACS; rw [if_neg hnb,if_pos hy,if_pos hd]
    rw [e,AWe (by decide)]
    simp -dsimp (disch:=first | assumption | omega | (simp only [Ata];try omega)) only [Atb,Atd,Ate,eq_self]
   ·rw [AU7,hany] at hd
    have e:ACS Atp l=0:=by unfold ACS; rw [if_neg hnb,if_pos hy,if_neg hd]
    rw [e,A9q]
    simp -dsimp (disch:=first | assumption | omega | (simp only [Ata];try omega)) only [Atb,Atd,eq_self]
end
end Go.Proofs.YtnkpoloeifhflaaDoor
namespace Go.Proofs.YtnkpoloeifhflaaDoor.Kit
open Go.RowKit
def Ato (w w':World):Prop:=Below w.heap.size w w'
theorem Ato.refl (w:World):Ato w w:=Below.refl _ _
theorem Ato.trans {a b c:World} (h:Ato a b) (k:Ato b c):Ato a c:=Below.trans h (Below.mono k (Below.size h))
theorem Ato.drew {a b:World} (h:Ato a b):Ato a b.drew:=Below.drew h
theorem Ato.drewN {a b:World} (h:Ato a b) (n:Nat):Ato a (b.drewN n):=Below.trans h ⟨rfl,rfl,rfl,Nat.le_refl _,fun _ _=>rfl⟩
theorem Ato.alloc {a b:World} (h:Ato a b) (o:Obj):Ato a (b.alloc o):=Below.alloc h (Below.size h) o
theorem Below.drewN' {B:Nat} {a b:World} (n:Nat) (h:Below B a b):Below B a (b.drewN n):=Below.trans h ⟨rfl,rfl,rfl,Nat.le_refl _,fun _ _=>rfl⟩
theorem Ato.cell {w w':World} (h:Ato w w') {p:Addr} {v:Value} (hv:w.cell? p=some v):w'.cell? p=some v:=by
 rw [Below.cell h (World.block_lt_of_cell? w p hv)]; exact hv
def Bs (w:World) (a:Option Addr) (l:List UInt8):Prop :=
 ∀ j,j<l.length→∃ b off,a=some ⟨b,off,none⟩∧w.cell? ⟨b,off+j,none⟩=some (.int .u8 (l.getD j 0).toNat)
theorem Bs.keep {w w':World} {a:Option Addr} {l:List UInt8} (h:Bs w a l) (k:Ato w w'):Bs w' a l:=fun j hj =>
 let ⟨b,off,e,hc⟩:=h j hj; ⟨b,off,e,k.cell hc⟩
theorem Bs.nil (w:World) (a:Option Addr):Bs w a []:=fun j hj=>absurd hj (by simp)
theorem AX9 {α:Type} (l:List α) (k:Nat) (d:α) (h:k<l.length):l.drop k=l.getD k d::l.drop (k+1):=by
 rw [List.drop_eq_getElem_cons h]; simp [List.getD,h]
theorem Bs.take {w:World} {a:Option Addr} {l:List UInt8} (h:Bs w a l) (n:Nat):Bs w a (l.take n):=fun j hj=>by
 have hj':j<l.length:=by simp at hj; omega
 have hjn:j<n:=by simp at hj; omega
 obtain ⟨b,off,e,hc⟩:=h j hj'
 exact ⟨b,off,e,by rw [hc]; simp [List.getD,hjn]⟩
theorem Bs.drop {w:World} {b off:Nat} {l:List UInt8} (h:Bs w (some ⟨b,off,none⟩) l) (n:Nat):Bs w (some ⟨b,off+n,none⟩) (l.drop n):=fun j hj=>by
 have hj':n+j<l.length:=by simp at hj; omega
 obtain ⟨b',off',e,hc⟩:=h (n+j) hj'
 simp only [Option.some.injEq,Addr.mk.injEq,and_true] at e
 obtain ⟨rfl,rfl⟩:=e
 refine ⟨b,off+n,rfl,?_⟩
 rw [Nat.add_assoc,hc]
 simp [List.getD]
def bv (l:List UInt8):List Value:=l.map fun x => .int .u8 (x.toNat:Int)
@[simp] theorem AxK (l:List UInt8):(bv l).length=l.length:=by simp [bv]
theorem AQ1 (l:List UInt8) (j:Nat) (h:j<l.length):(bv l)[j]?=some (.int .u8 ((l.getD j 0).toNat:Int)):=by simp [bv,List.getD,h]
theorem AKb (l:List UInt8):∀ v∈bv l,v.oneCell'=true:=by
 intro v hv; simp only [bv,List.mem_map] at hv; obtain ⟨x,_,rfl⟩:=hv; rfl
theorem Bs.of_block {w:World} {g:Nat} {cs:List Value} {t:TypeId} {fr:Nat×Nat} (hg:w.heap[g]?=some (.cells cs.toArray t fr)) {off:Nat} {l:List UInt8}
  (h:∀ j,j<l.length→cs[off+j]?=some (.int .u8 ((l.getD j 0).toNat:Int))):Bs w (some ⟨g,off,none⟩) l:=fun j hj =>
 ⟨g,off,rfl,by rw [cell_of_row w g (off+j) _ t fr hg]; simpa using h j hj⟩
theorem Bs.src {w:World} {a:Option Addr} {l:List UInt8} (h:Bs w a l) (hp:0<(bv l).length):∃ ad,a=some ad∧∀ j v,(bv l)[j]?=some v→w.cell? (ad.add j)=some v:=by
 obtain ⟨b,off,rfl,_⟩:=h 0 (by simpa using hp)
 refine ⟨_,rfl,fun j v hv => ?_⟩
 have hj:j<l.length:=by
  rcases Nat.lt_or_ge j l.length with h1 | h1
  ·exact h1
  ·rw [List.getElem?_eq_none (by simpa using h1)] at hv; cases hv
 obtain ⟨b',off',e,hc⟩:=h j hj
 simp only [Option.some.injEq,Addr.mk.injEq,and_true] at e
 obtain ⟨rfl,rfl⟩:=e
 rw [AQ1 l j hj] at hv
 rw [show (⟨b,off,none⟩:Addr).add j=⟨b,off+j,none⟩ from by simp [Addr.add],hc]; exact hv
theorem AUe (x:UInt8):(x.toNat:Int)<256:=by have:=UInt8.toNat_lt x; omega
theorem Bs.at {w:World} {a:Option Addr} {l:List UInt8} (h:Bs w a l) {j:Nat} (hj:j<l.length) :
  ∃ b off x,a=some ⟨b,off,none⟩∧w.cell? ⟨b,off+j,none⟩=some (.int .u8 (x.toNat:Int))∧(x.toNat:Int)<256∧Hid (x=l.getD j 0):=by
 obtain ⟨b,off,e,hc⟩:=h j hj
 exact ⟨b,off,l.getD j 0,e,hc,AUe _,rfl⟩
theorem Bs.at' {w:World} {b off:Nat} {l:List UInt8} (h:Bs w (some ⟨b,off,none⟩) l) {j:Nat} (hj:j<l.length) :
  ∃ x,w.cell? ⟨b,off+j,none⟩=some (.int .u8 (x.toNat:Int))∧(x.toNat:Int)<256∧Hid (x=l.getD j 0):=by
 obtain ⟨b',off',e,hc⟩:=h j hj
 simp only [Option.some.injEq,Addr.mk.injEq,and_true] at e
 obtain ⟨rfl,rfl⟩:=e
 exact ⟨l.getD j 0,hc,AUe _,rfl⟩
theorem Ayr {P:Program} {f:FuncId} {args:Array Value} {w:World} {n:Nat} {v:Value}
  (h:Calls P f args (w.drewN n) fun e w'=>e = .returned v∧w.drewN n=w'):Calls P f args (w.drewN n) fun e w''=>e = .returned v∧∃ m,w''=w.drewN m :=
 h.mono fun _ _ ⟨he,hm⟩=>⟨he,n,hm.symm⟩
theorem AYq {a w:World} {row:Option Nat} (h:a.grownBy w row):a.grownBy w.drew row:=⟨h.os,h.tape,h.output,h.size,h.block⟩
theorem ASM {a w:World} {g:Nat} (h:a.grownBy w (some g)) {p:Addr} (hp:p.block=g∨a.heap.size≤p.block) (u:Value):a.grownBy (w.setCell p u) (some g) :=
 ⟨h.os,h.tape,h.output,by simpa [World.setCell] using h.size,fun i hi hne=>(Below.heap_setCell w p u i (by
  rintro rfl
  rcases hp with hp | hp
  ·exact hne (by rw [hp])
  ·omega)).trans (h.block i hi hne)⟩
end Go.Proofs.YtnkpoloeifhflaaDoor.Kit
namespace Go.Proofs.YtnkpoloeifhflaaDoor.Kit
open Go.RowKit
def rot (x n:Nat):Nat:=(x*2 ^ n % 4294967296) ||| (x / 2 ^ (32 - n))
def sf1 (b c d:Nat):Nat:=(b &&& c) ||| ((4294967295 ^^^ b) &&& d)
def sf2 (b c d:Nat):Nat:=(b ^^^ c) ^^^ d
def sf3 (b c d:Nat):Nat:=((b &&& c) ||| (b &&& d)) ||| (c &&& d)
def sff (i b c d:Nat):Nat:=if i<20 then sf1 b c d else if i<40 then sf2 b c d else if i<60 then sf3 b c d else sf2 b c d
def skk (i:Nat):Nat:=if i<20 then 1518500249 else if i<40 then 1859775393 else if i<60 then 2400959708 else 3395469782
theorem AGp {a b:Nat} (ha:a<4294967296) (hb:b<4294967296):a ||| b<4294967296:=Nat.or_lt_two_pow (n:=32) ha hb
theorem Awv {a b:Nat} (ha:a<4294967296):a &&& b<4294967296:=Nat.lt_of_le_of_lt Nat.and_le_left ha
theorem Aul {a b:Nat} (ha:a<4294967296) (hb:b<4294967296):a ^^^ b<4294967296:=Nat.xor_lt_two_pow (n:=32) ha hb
theorem AYy {x:Nat} (n:Nat) (hx:x<4294967296):rot x n<4294967296 :=
 AGp (Nat.mod_lt _ (by omega)) (Nat.lt_of_le_of_lt (Nat.div_le_self _ _) hx)
theorem BaM {b c d:Nat} (hb:b<4294967296):sf1 b c d<4294967296:=AGp (Awv hb) (Awv (Aul (by omega) hb))
theorem A4U {b c d:Nat} (hb:b<4294967296) (hc:c<4294967296) (hd:d<4294967296):sf2 b c d<4294967296:=Aul (Aul hb hc) hd
theorem A9O {b c d:Nat} (hb:b<4294967296) (hc:c<4294967296):sf3 b c d<4294967296:=AGp (AGp (Awv hb) (Awv hb)) (Awv hc)
theorem A85 (i:Nat) {b c d:Nat} (hb:b<4294967296) (hc:c<4294967296) (hd:d<4294967296):sff i b c d<4294967296:=by
 unfold sff; split
 ·exact BaM hb
 ·split
  ·exact A4U hb hc hd
  ·split
   ·exact A9O hb hc
   ·exact A4U hb hc hd
def AZz (p:List UInt8) (i:Nat):Nat:=(p.getD i 0).toNat*16777216+(p.getD (i+1) 0).toNat*65536+(p.getD (i+2) 0).toNat*256+(p.getD (i+3) 0).toNat
theorem A7x (p:List UInt8) (i:Nat):AZz p i<4294967296:=by
 unfold AZz
 have:=UInt8.toNat_lt (p.getD i 0); have:=UInt8.toNat_lt (p.getD (i+1) 0); have:=UInt8.toNat_lt (p.getD (i+2) 0); have:=UInt8.toNat_lt (p.getD (i+3) 0)
 omega
theorem AQ2 {L:List Nat} {M:Nat} (h:∀ x∈L,x<M) (h0:0<M) (j:Nat):L.getD j 0<M:=by
 rw [List.getD_eq_getElem?_getD]
 cases e:L[j]? with
 | none=>exact h0
 | some x=>exact h x (List.mem_of_getElem? e)
def AQZ (p:List UInt8) (L:List Nat) (i:Nat):Nat :=
 if i<16 then AZz p (4*i) else rot (((L.getD (i - 3) 0 ^^^ L.getD (i - 8) 0) ^^^ L.getD (i - 14) 0) ^^^ L.getD (i - 16) 0) 1
def wl (p:List UInt8):Nat→List Nat
 | 0=>[]
 | i+1=>wl p i++[AQZ p (wl p i) i]
@[simp] theorem ADs (p:List UInt8) (i:Nat):(wl p i).length=i:=by induction i with
 | zero=>rfl
 | succ i ih=>simp [wl,ih]
theorem Bdg (p:List UInt8) (i:Nat):∀ x∈wl p i,x<4294967296:=by
 induction i with
 | zero=>intro x hx; cases hx
 | succ i ih =>
  intro x hx
  simp only [wl,List.mem_append,List.mem_singleton] at hx
  rcases hx with hx | rfl
  ·exact ih x hx
  ·have hg:∀ j,(wl p i).getD j 0<4294967296:=AQ2 ih (by omega)
   unfold AQZ; split
   ·exact A7x _ _
   ·exact AYy _ (Aul (Aul (Aul (hg _) (hg _)) (hg _)) (hg _))
theorem Axe (p:List UInt8) (i j:Nat):(wl p i).getD j 0<4294967296:=AQ2 (Bdg p i) (by omega) j
structure V5 where
 a:Nat
 b:Nat
 c:Nat
 d:Nat
 e:Nat
def V5.ok (v:V5):Prop:=v.a<4294967296∧v.b<4294967296∧v.c<4294967296∧v.d<4294967296∧v.e<4294967296
def V5.list (v:V5):List Nat:=[v.a,v.b,v.c,v.d,v.e]
def AxU (L:List Nat):List Value:=L.map fun (n:Nat)=>Value.int .u32 (n:Int)
@[simp] theorem ABy (L:List Nat):(AxU L).length=L.length:=by simp [AxU]
def ALP (n:Nat):List Value:=List.replicate n (.int .u32 0)
theorem ASm (L:List Nat) (j:Nat) (h:j<L.length):(AxU L)[j]?=some (.int .u32 ((L.getD j 0:Nat):Int)):=by simp [AxU,List.getD,h]
theorem AT8 (p:List UInt8) (k:Nat) (hk:k<80):(AxU (wl p k)++ALP (80 - k))[k]?=some (.int .u32 0):=by
 rw [List.getElem?_append_right (by simp),ABy,ADs,Nat.sub_self,ALP,List.getElem?_replicate,if_pos (by omega)]
theorem AED (p:List UInt8) (k j:Nat) (hj:j<k):(AxU (wl p k)++ALP (80 - k))[j]?=some (.int .u32 (((wl p k).getD j 0:Nat):Int)):=by
 rw [List.getElem?_append_left (by simpa using hj),ASm _ _ (by simpa using hj)]
theorem AUD (p:List UInt8) (k x:Nat) (hk:k<80) (hx:x=AQZ p (wl p k) k):(AxU (wl p k)++ALP (80 - k)).set k (.int .u32 (x:Int))=AxU (wl p (k+1))++ALP (80 - (k+1)):=by
 subst hx
 rw [List.set_append_right _ _ (by simp)]
 simp only [ABy,ADs,Nat.sub_self]
 rw [show 80 - k=(80 - (k+1))+1 from by omega]
 simp [ALP,List.replicate_succ,wl,AxU]
theorem A99 (p:List UInt8) (i:Nat) (h:i<80):(AxU (wl p 80)++ALP (80 - 80))[i]?=some (.int .u32 (((wl p 80).getD i 0:Nat):Int)):=AED p 80 i h
def ABf (i:Nat) (v:V5) (x:Nat):Nat:=((((rot v.a 5+sff i v.b v.c v.d) % 4294967296+v.e) % 4294967296+skk i) % 4294967296+x) % 4294967296
def rnd (i:Nat) (v:V5) (x:Nat):V5:=⟨ABf i v x,v.a,rot v.b 30,v.c,v.d⟩
theorem AQe (i:Nat) {v:V5} (x:Nat) (h:v.ok):(rnd i v x).ok:=⟨Nat.mod_lt _ (by omega),h.1,AYy _ h.2.1,h.2.2.1,h.2.2.2.1⟩
def ATq:Nat→V5→List Nat→V5
 | _,v,[]=>v
 | i,v,x::l=>ATq (i+1) (rnd i v x) l
theorem AWY (l:List Nat):∀ (i:Nat) (v:V5),v.ok→(ATq i v l).ok:=by
 induction l with
 | nil=>intro i v h; exact h
 | cons x l ih=>intro i v h; exact ih _ _ (AQe i x h)
theorem AW4 (i:Nat) (v:V5) (l:List Nat) (h:i<l.length):ATq i v (l.drop i)=ATq (i+1) (rnd i v (l.getD i 0)) (l.drop (i+1)):=by
 rw [AX9 l i 0 h]; rfl
def A68 (h v:V5):V5:=⟨(h.a+v.a) % 4294967296,(h.b+v.b) % 4294967296,(h.c+v.c) % 4294967296,(h.d+v.d) % 4294967296,(h.e+v.e) % 4294967296⟩
theorem AUh (h v:V5):(A68 h v).ok:=⟨Nat.mod_lt _ (by omega),Nat.mod_lt _ (by omega),Nat.mod_lt _ (by omega),Nat.mod_lt _ (by omega),Nat.mod_lt _ (by omega)⟩
def blk (h:V5) (p:List UInt8):V5:=A68 h (ATq 0 h (wl p 80))
def A4I:Nat→V5→List UInt8→V5×List UInt8
 | 0,h,l=>(h,l)
 | f+1,h,l=>if l.length<64 then (h,l) else A4I f (blk h (l.take 64)) (l.drop 64)
def Auj (h:V5) (l:List UInt8):V5×List UInt8:=A4I l.length h l
theorem AWM:∀ (f g:Nat) (h:V5) (l:List UInt8),l.length≤f→l.length≤g→A4I f h l=A4I g h l:=by
 intro f
 induction f with
 | zero =>
  intro g h l hf _
  have:l=[]:=List.eq_nil_of_length_eq_zero (by omega)
  subst this
  cases g<;>simp [A4I]
 | succ f ih =>
  intro g h l hf hg
  cases g with
  | zero =>
   have:l=[]:=List.eq_nil_of_length_eq_zero (by omega)
   subst this; simp [A4I]
  | succ g =>
   simp only [A4I]
   split
   ·rfl
   ·exact ih g _ _ (by simp; omega) (by simp; omega)
theorem Aw0 (h:V5) (l:List UInt8) (hl:l.length<64):Auj h l=(h,l):=by
 unfold Auj
 cases hn:l.length with
 | zero=>rfl
 | succ n=>simp only [A4I]; rw [if_pos hl]
theorem AAs (h:V5) (l:List UInt8) (hl:64≤l.length):Auj h l=Auj (blk h (l.take 64)) (l.drop 64):=by
 unfold Auj
 obtain ⟨n,hn⟩:∃ n,l.length=n+1:=⟨l.length - 1,by omega⟩
 rw [hn]
 simp only [A4I]
 rw [if_neg (by omega)]
 exact AWM _ _ _ _ (by simp; omega) (Nat.le_refl _)
theorem AIC (h:V5) (l:List UInt8):(Auj h l).2.length<64:=by
 suffices H:∀ (n:Nat) (h:V5) (l:List UInt8),l.length≤n→(Auj h l).2.length<64 from H _ h l (Nat.le_refl _)
 intro n
 induction n with
 | zero=>intro h l hl; rw [Aw0 _ _ (by omega)]; simp; omega
 | succ n ih =>
  intro h l hl
  rcases Nat.lt_or_ge l.length 64 with h1 | h1
  ·rw [Aw0 _ _ h1]; exact h1
  ·rw [AAs _ _ h1]; exact ih _ _ (by simp; omega)
theorem AOZ (h:V5) (l:List UInt8) (hh:h.ok):(Auj h l).1.ok:=by
 suffices H:∀ (n:Nat) (h:V5) (l:List UInt8),h.ok→l.length≤n→(Auj h l).1.ok from H _ h l hh (Nat.le_refl _)
 intro n
 induction n with
 | zero=>intro h l hh hl; rw [Aw0 _ _ (by omega)]; exact hh
 | succ n ih =>
  intro h l hh hl
  rcases Nat.lt_or_ge l.length 64 with h1 | h1
  ·rw [Aw0 _ _ h1]; exact hh
  ·rw [AAs _ _ h1]; exact ih _ _ (AUh _ _) (by simp; omega)
theorem AQL (h:V5) (l m:List UInt8):Auj h (l++m)=Auj (Auj h l).1 ((Auj h l).2++m):=by
 suffices H:∀ (n:Nat) (h:V5) (l:List UInt8),l.length≤n→Auj h (l++m)=Auj (Auj h l).1 ((Auj h l).2++m) from H _ h l (Nat.le_refl _)
 intro n
 induction n with
 | zero=>intro h l hl; rw [Aw0 h l (by omega)]
 | succ n ih =>
  intro h l hl
  rcases Nat.lt_or_ge l.length 64 with h1 | h1
  ·rw [Aw0 h l h1]
  ·rw [AAs h l h1,AAs h (l++m) (by simp; omega),List.take_append_of_le_length h1,List.drop_append_of_le_length h1]
   exact ih _ _ (by simp; omega)
def H0:V5:=⟨1732584193,4023233417,2562383102,271733878,3285377520⟩
theorem A2o:H0.ok:=by unfold V5.ok H0; refine ⟨?_,?_,?_,?_,?_⟩<;>decide
def be8 (n:Nat):List UInt8:=(List.range 8).map fun k=>UInt8.ofNat (n / 2 ^ (56 - 8*k) % 256)
theorem AyA (n:Nat):(be8 n).length=8:=by simp [be8]
theorem AUN (n i:Nat) (hi:i<8):(be8 n).take (i+1)=(be8 n).take i++[UInt8.ofNat (n / 2 ^ (56 - 8*i) % 256)]:=by
 rw [List.take_succ_eq_append_getElem (by rw [AyA]; exact hi)]
 congr 2
 simp [be8]
def AKs (n:Nat):List UInt8:=128::List.replicate ((119 - n % 64) % 64) 0++be8 (n*8 % 18446744073709551616)
def Awm (v:V5):List UInt8:=(List.range 20).map fun i=>UInt8.ofNat (v.list.getD (i / 4) 0 / 2 ^ (24 - 8*(i % 4)) % 256)
theorem AuJ (v:V5):(Awm v).length=20:=by simp [Awm]
theorem AQo (v:V5) (i:Nat) (hi:i<20):(Awm v).take (i+1)=(Awm v).take i++[UInt8.ofNat (v.list.getD (i / 4) 0 / 2 ^ (24 - 8*(i % 4)) % 256)]:=by
 rw [List.take_succ_eq_append_getElem (by rw [AuJ]; exact hi)]
 congr 2
 simp [Awm]
def z8 (n:Nat):List Value:=List.replicate n (.int .u8 0)
theorem AUU (v:V5) (i:Nat) (hi:i<20):(bv ((Awm v).take i)++z8 (20 - i))[i]?=some (.int .u8 0):=by
 rw [List.getElem?_append_right (by simp [AuJ]; omega),AxK,List.length_take,AuJ,z8,List.getElem?_replicate,if_pos (by omega)]
theorem AV9 (v:V5) (i k:Nat) (hi:i<5) (hk:k<4):(Awm v).take (4*i+k+1)=(Awm v).take (4*i+k)++[UInt8.ofNat (v.list.getD i 0 / 2 ^ (24 - 8*k) % 256)]:=by
 have h:=AQo v (4*i+k) (by omega)
 rw [show (4*i+k) / 4=i from by omega,show (4*i+k) % 4=k from by omega] at h
 exact h
theorem AYM (v:V5) (i:Nat) (hi:i<20) {y:UInt8} (hy:(Awm v).take (i+1)=(Awm v).take i++[y]) {z:Int} (hz:z=(y.toNat:Int)):(bv ((Awm v).take i)++z8 (20 - i)).set i (.int .u8 z)=bv ((Awm v).take (i+1))++z8 (20 - (i+1)):=by
 subst hz
 have hl:(bv ((Awm v).take i)).length=i:=by simp [AuJ]; omega
 rw [List.set_append_right _ _ (by omega),hl,Nat.sub_self,hy,show 20 - i=(20 - (i+1))+1 from by omega]
 simp [z8,List.replicate_succ,bv]
theorem A1h {n z j m:Nat} (hz:z=(119 - n % 64) % 64) (hj:j<z) (hm:m=n+1+j):(((m:Int) % 64) != 56)=true:=by rw [bne_iff_ne]; omega
theorem A0k {n z j m:Nat} (hz:z=(119 - n % 64) % 64) (hj:j=z) (hm:m=n+1+j):(((m:Int) % 64) != 56)=false:=by rw [bne_eq_false_iff_eq]; omega
theorem A49 (l:List UInt8):∃ q,(l++AKs l.length).length=64*q:=by
 have h:(l++AKs l.length).length=l.length+(1+(119 - l.length % 64) % 64+8):=by simp [AKs,AyA]; omega
 rw [h]
 exact ⟨(l.length+(1+(119 - l.length % 64) % 64+8)) / 64,by omega⟩
theorem A08 (n:Nat):(AKs n).length≤73:=by simp [AKs,AyA]; omega
theorem A4E (n q:Nat) (hq:q<8):(be8 n).take (8 - q)=(be8 n).take (7 - q)++[UInt8.ofNat (n / 2 ^ (8*q) % 256)]:=by
 have h:=AUN n (7 - q) (by omega)
 rw [show 7 - q+1=8 - q from by omega,show 56 - 8*(7 - q)=8*q from by omega] at h
 exact h
def sha (l:List UInt8):List UInt8:=Awm (Auj H0 (l++AKs l.length)).1
@[simp] theorem AAt (l:List UInt8):(sha l).length=20:=by simp [sha,Awm]
structure AHo (p:List UInt8) (h:V5) (i:Nat) (v:V5):Prop where
 eq:ATq i v ((wl p 80).drop i)=ATq 0 h (wl p 80)
theorem AHo.zero (p:List UInt8) (h:V5):AHo p h 0 h:=⟨rfl⟩
theorem AHo.succ {p:List UInt8} {h v:V5} {i:Nat} (H:AHo p h i v) (hi:i<80):AHo p h (i+1) (rnd i v ((wl p 80).getD i 0)):=by
 have e:=H.eq; rw [AW4 _ _ _ (by rw [ADs]; exact hi)] at e; exact ⟨e⟩
theorem AHo.last {p:List UInt8} {h v:V5} (H:AHo p h 80 v):v=ATq 0 h (wl p 80):=by
 have e:=H.eq; rw [List.drop_eq_nil_of_le (by rw [ADs]; exact Nat.le_refl _)] at e; exact e
def A44 (h v:V5) (k:Nat):List Nat:=(A68 h v).list.take k++h.list.drop k
theorem AOV (h v:V5) (k:Nat):(A44 h v k).length=5:=by
 simp [A44,V5.list]; omega
theorem AVj (h v:V5) (k:Nat) (hk:k<5):(AxU (A44 h v k))[k]?=some (.int .u32 ((h.list.getD k 0:Nat):Int)):=by
 rcases (show k=0∨k=1∨k=2∨k=3∨k=4 from by omega) with rfl | rfl | rfl | rfl | rfl<;>rfl
theorem AUY (h v:V5) (k:Nat) (hk:k<5):(AxU (A44 h v k)).set k (.int .u32 (((h.list.getD k 0+v.list.getD k 0) % 4294967296:Nat):Int))=AxU (A44 h v (k+1)):=by
 rcases (show k=0∨k=1∨k=2∨k=3∨k=4 from by omega) with rfl | rfl | rfl | rfl | rfl<;>rfl
theorem ATd (h v:V5):A44 h v 5=(A68 h v).list:=rfl
theorem AKC (v:V5) (k:Nat) (hk:k<5):(AxU v.list)[k]?=some (.int .u32 ((v.list.getD k 0:Nat):Int)):=by
 rcases (show k=0∨k=1∨k=2∨k=3∨k=4 from by omega) with rfl | rfl | rfl | rfl | rfl<;>rfl
theorem V5.ok.get {v:V5} (h:v.ok) (k:Nat):v.list.getD k 0<4294967296:=by
 refine AQ2 ?_ (by omega) k
 intro x hx
 simp only [V5.list,List.mem_cons,List.not_mem_nil,or_false] at hx
 obtain ⟨h1,h2,h3,h4,h5⟩:=h
 rcases hx with rfl | rfl | rfl | rfl | rfl<;>assumption
theorem BdN {i b c d:Nat} (h:i<20):sff i b c d=sf1 b c d:=by unfold sff; rw [if_pos h]
theorem BdW {i b c d:Nat} (h:20≤i) (h2:i<40):sff i b c d=sf2 b c d:=by unfold sff; rw [if_neg (by omega),if_pos h2]
theorem Beg {i b c d:Nat} (h:40≤i) (h2:i<60):sff i b c d=sf3 b c d:=by unfold sff; rw [if_neg (by omega),if_neg (by omega),if_pos h2]
theorem Bd4 {i b c d:Nat} (h:60≤i):sff i b c d=sf2 b c d:=by unfold sff; rw [if_neg (by omega),if_neg (by omega),if_neg (by omega)]
theorem BdJ {i:Nat} (h:i<20):skk i=1518500249:=by unfold skk; rw [if_pos h]
theorem BdO {i:Nat} (h:20≤i) (h2:i<40):skk i=1859775393:=by unfold skk; rw [if_neg (by omega),if_pos h2]
theorem Bef {i:Nat} (h:40≤i) (h2:i<60):skk i=2400959708:=by unfold skk; rw [if_neg (by omega),if_neg (by omega),if_pos h2]
theorem BdB {i:Nat} (h:60≤i):skk i=3395469782:=by unfold skk; rw [if_neg (by omega),if_neg (by omega),if_neg (by omega)]
end Go.Proofs.YtnkpoloeifhflaaDoor.Kit
namespace Go.Proofs.YtnkpoloeifhflaaDoor.Kit
def tb:Nat→Nat
 | 0=>65520
 | i+1=>tb i+(65520+255*(i+1))
end Go.Proofs.YtnkpoloeifhflaaDoor.Kit
namespace Go.Proofs.YtnkpoloeifhflaaDoor.Kit
open Go.RowKit
theorem ABF {a b:Int} (h:a=b):Ending.returned (.int .u32 a) = .returned (.int .u32 b):=by rw [h]
end Go.Proofs.YtnkpoloeifhflaaDoor.Kit
namespace Go.Proofs.YtnkpoloeifhflaaDoor.Kit
open Go.RowKit
theorem AMD (x:Nat) (k:Nat) (hx:x<4294967296) (hk:k<32):bits .or .u32 ((x:Int)*(2 ^ k:Nat) % 4294967296) ((x:Int) / (2 ^ (32 - k):Nat))=((rot x k:Nat):Int):=by
 rw [show (x:Int)*(2 ^ k:Nat) % 4294967296=((x*2 ^ k % 4294967296:Nat):Int) from by rw [Int.natCast_emod,Int.natCast_mul]; rfl,show (x:Int) / (2 ^ (32 - k):Nat)=((x / 2 ^ (32 - k):Nat):Int) from by rw [Int.natCast_ediv],u32_or_nat _ _ (Nat.mod_lt _ (by omega)) (Nat.lt_of_le_of_lt (Nat.div_le_self _ _) hx)]
 rfl
set_option maxRecDepth 100000 in
set_option maxHeartbeats 400000 in
theorem ALi (x:Nat) (k:Int) (w:World) (hx:x<4294967296) (hk:k=1∨k=5∨k=30) :
  Calls Tryd.prog 60 #[.int .u32 x,.int .i64 k] w fun e w'=>e = .returned (.int .u32 (rot x k.toNat))∧w=w':=by
 rcases hk with rfl | rfl | rfl
 ·have hm:bits .and .u64 1 31=1:=by decide
  go_enter Tryd.func60,Tryd.ntmps60
  go_wp2
  go_ret
  exact ⟨ABF (AMD x 1 hx (by omega)),rfl⟩
 ·have hm:bits .and .u64 5 31=5:=by decide
  go_enter Tryd.func60,Tryd.ntmps60
  go_wp2
  go_ret
  exact ⟨ABF (AMD x 5 hx (by omega)),rfl⟩
 ·have hm:bits .and .u64 30 31=30:=by decide
  go_enter Tryd.func60,Tryd.ntmps60
  go_wp2
  go_ret
  exact ⟨ABF (AMD x 30 hx (by omega)),rfl⟩
set_option maxRecDepth 100000 in
set_option maxHeartbeats 400000 in
theorem turn (x:Nat) (k:Int) (w:World) (hx:x<4294967296) (hk:k=1∨k=5∨k=30) :
  Calls Tryd.prog 50 #[.int .u32 x,.int .i64 k] w fun e w'=>e = .returned (.int .u32 (rot x k.toNat))∧∃ n,w'=w.drewN n:=by
 rcases hk with rfl | rfl | rfl
 ·go_enter Tryd.func50,Tryd.ntmps50
  go_wp2
  go_quiet (fail)
  go_wp2
  go_ret
  exact ⟨ABF (AMD x 1 hx (by omega)),_,rfl⟩
 ·go_enter Tryd.func50,Tryd.ntmps50
  go_wp2
  go_quiet (fail)
  go_wp2
  go_ret
  exact ⟨ABF (AMD x 5 hx (by omega)),_,rfl⟩
 ·go_enter Tryd.func50,Tryd.ntmps50
  go_wp2
  go_quiet (fail)
  go_wp2
  go_ret
  exact ⟨ABF (AMD x 30 hx (by omega)),_,rfl⟩
theorem AUy (a b c d:Nat) (ha:a<4294967296) (hb:b<4294967296) (hc:c<4294967296) (hd:d<4294967296) :
  bits .xor .u32 (bits .xor .u32 (bits .xor .u32 a b) c) d=(((((a ^^^ b) ^^^ c) ^^^ d:Nat)):Int):=by
 rw [u32_xor_nat _ _ ha hb,u32_xor_nat _ _ (Aul ha hb) hc,u32_xor_nat _ _ (Aul (Aul ha hb) hc) hd]
theorem AYS (b c d:Nat) (hb:b<4294967296) (hc:c<4294967296) (hd:d<4294967296) :
  bits .or .u32 (bits .and .u32 b c) (bits .and .u32 (bits .xor .u32 IntKind.u32.max b) d)=((sf1 b c d:Nat):Int):=by
 rw [show IntKind.u32.max=((4294967295:Nat):Int) from rfl,u32_and_nat _ _ hb hc,u32_xor_nat _ _ (by omega) hb,u32_and_nat _ _ (Aul (by omega) hb) hd,u32_or_nat _ _ (Awv hb) (Awv (Aul (by omega) hb))]; rfl
theorem AQW (b c d:Nat) (hb:b<4294967296) (hc:c<4294967296) (hd:d<4294967296):bits .xor .u32 (bits .xor .u32 b c) d=((sf2 b c d:Nat):Int):=by
 rw [u32_xor_nat _ _ hb hc,u32_xor_nat _ _ (Aul hb hc) hd]; rfl
theorem AYQ (b c d:Nat) (hb:b<4294967296) (hc:c<4294967296) (hd:d<4294967296) :
  bits .or .u32 (bits .or .u32 (bits .and .u32 b c) (bits .and .u32 b d)) (bits .and .u32 c d)=((sf3 b c d:Nat):Int):=by
 rw [u32_and_nat _ _ hb hc,u32_and_nat _ _ hb hd,u32_and_nat _ _ hc hd,u32_or_nat _ _ (Awv hb) (Awv hb),u32_or_nat _ _ (AGp (Awv hb) (Awv hb)) (Awv hc)]; rfl
set_option maxRecDepth 100000 in
set_option maxHeartbeats 400000 in
theorem BeI (b c d:Nat) (w:World) (hb:b<4294967296) (hc:c<4294967296) (hd:d<4294967296) :
  Calls Tryd.prog 67 #[.int .u32 b,.int .u32 c,.int .u32 d] w fun e w'=>e = .returned (.int .u32 (sf1 b c d))∧w=w':=by
 go_enter Tryd.func67,Tryd.ntmps67
 go_wp2
 go_ret
 exact ⟨ABF (AYS b c d hb hc hd),rfl⟩
set_option maxRecDepth 100000 in
set_option maxHeartbeats 400000 in
theorem BeH (b c d:Nat) (w:World) (hb:b<4294967296) (hc:c<4294967296) (hd:d<4294967296) :
  Calls Tryd.prog 68 #[.int .u32 b,.int .u32 c,.int .u32 d] w fun e w'=>e = .returned (.int .u32 (sf2 b c d))∧w=w':=by
 go_enter Tryd.func68,Tryd.ntmps68
 go_wp2
 go_ret
 exact ⟨ABF (AQW b c d hb hc hd),rfl⟩
set_option maxRecDepth 100000 in
set_option maxHeartbeats 400000 in
theorem Bep (b c d:Nat) (w:World) (hb:b<4294967296) (hc:c<4294967296) (hd:d<4294967296) :
  Calls Tryd.prog 69 #[.int .u32 b,.int .u32 c,.int .u32 d] w fun e w'=>e = .returned (.int .u32 (sf3 b c d))∧w=w':=by
 go_enter Tryd.func69,Tryd.ntmps69
 go_wp2
 go_ret
 exact ⟨ABF (AYQ b c d hb hc hd),rfl⟩
set_option maxRecDepth 100000 in
set_option maxHeartbeats 400000 in
theorem Bev (b c d:Nat) (w:World) (hb:b<4294967296) (hc:c<4294967296) (hd:d<4294967296) :
  Calls Tryd.prog 70 #[.int .u32 b,.int .u32 c,.int .u32 d] w fun e w'=>e = .returned (.int .u32 (sf2 b c d))∧w=w':=by
 go_enter Tryd.func70,Tryd.ntmps70
 go_wp2
 go_ret
 exact ⟨ABF (AQW b c d hb hc hd),rfl⟩
theorem AUR (x0 x1 x2 x3:UInt8):bits .or .u32 (bits .or .u32 (bits .or .u32 ((x0.toNat:Int)*16777216) ((x1.toNat:Int)*65536)) ((x2.toNat:Int)*256)) (x3.toNat:Int) =
  ((x0.toNat*16777216+x1.toNat*65536+x2.toNat*256+x3.toNat:Nat):Int):=by
 have:=UInt8.toNat_lt x0; have:=UInt8.toNat_lt x1; have:=UInt8.toNat_lt x2; have:=UInt8.toNat_lt x3
 rw [show (x0.toNat:Int)*16777216=((x0.toNat*16777216:Nat):Int) from by omega,show (x1.toNat:Int)*65536=((x1.toNat*65536:Nat):Int) from by omega,show (x2.toNat:Int)*256=((x2.toNat*256:Nat):Int) from by omega,u32_or_nat _ _ (by omega) (by omega),nat_join 24 (x0.toNat*16777216) (x1.toNat*65536) (by omega) (by omega),u32_or_nat _ _ (by omega) (by omega),nat_join 16 (x0.toNat*16777216+x1.toNat*65536) (x2.toNat*256) (by omega) (by omega),u32_or_nat _ _ (by omega) (by omega),nat_join 8 (x0.toNat*16777216+x1.toNat*65536+x2.toNat*256) x3.toNat (by omega) (by omega)]
set_option maxRecDepth 100000 in
set_option maxHeartbeats 400000 in
theorem A56 (a:Option Addr) (cap i:Nat) (p:List UInt8) (w:World) (hb:Bs w a p) (hi:i+4≤p.length) (hp:p.length≤9223372036854775807) :
  Calls Tryd.prog 49 #[.slice a p.length cap,.int .i64 i] w fun e w'=>e = .returned (.int .u32 (AZz p i))∧∃ n,w'=w.drewN n:=by
 obtain ⟨b,off,x0,rfl,hc0,hx0,HX0⟩:=hb.at (j:=i) (by omega)
 obtain ⟨x1,hc1,hx1,HX1⟩:=hb.at' (j:=i+1) (by omega)
 obtain ⟨x2,hc2,hx2,HX2⟩:=hb.at' (j:=i+2) (by omega)
 obtain ⟨x3,hc3,hx3,HX3⟩:=hb.at' (j:=i+3) (by omega)
 go_enter Tryd.func49,Tryd.ntmps49
 go_wp2
 go_quiet (fail)
 go_wp2
 go_ret
 refine ⟨ABF ?_,_,rfl⟩
 rw [AUR]; unfold AZz; rw [←HX0.out,←HX1.out,←HX2.out,←HX3.out]
theorem A1K (a:Option Addr) (cap:Nat) (i:Int) (p:List UInt8) (w:World) (hb:Bs w a p) (hp:p.length=64) (hi:0≤i∧i+4≤64) :
  Calls Tryd.prog 49 #[.slice a 64 cap,.int .i64 i] w fun e w'=>e = .returned (.int .u32 (AZz p i.toNat))∧∃ n,w'=w.drewN n:=by
 obtain ⟨j,rfl⟩:=Int.eq_ofNat_of_zero_le hi.1
 rw [Int.toNat_natCast]
 have:=A56 a cap j p w hb (by omega) (by omega)
 rw [hp] at this; exact this
end Go.Proofs.YtnkpoloeifhflaaDoor.Kit
namespace Go.Proofs.YtnkpoloeifhflaaDoor.Kit
open Go.RowKit
def Arr (w:World) (b:Nat) (t:TypeId) (cs:List Value):Prop:=w.heap[b]?=some (.cells cs.toArray t (0,0))
section
variable {w:World} {b:Nat} {t:TypeId} {cs:List Value}
theorem Arr.cell (h:Arr w b t cs) (i:Nat):w.cell? ⟨b,i,none⟩=cs[i]?:=by rw [cell_of_row w b i _ t _ h]; simp
theorem Arr.frozen (h:Arr w b t cs) (i:Nat):w.frozen? ⟨b,i,none⟩=false:=frozen_of_row _ _ _ _ _ h
theorem Arr.set (h:Arr w b t cs) (i:Nat) (v:Value):Arr (w.setCell ⟨b,i,none⟩ v) b t (cs.set i v):=by
 unfold Arr; rw [heap_setCell_same _ _ _ _ _ _ h]; simp
theorem Arr.other (h:Arr w b t cs) (a:Addr) (v:Value) (hne:b≠a.block):Arr (w.setCell a v) b t cs:=by
 unfold Arr; rw [heap_setCell_other _ _ _ _ hne]; exact h
theorem Arr.keep {w':World} (h:Arr w b t cs) (k:Ato w w'):Arr w' b t cs:=by
 unfold Arr at *; rw [Below.block k b (Array.getElem?_eq_some_iff.1 h).1]; exact h
theorem Arr.alloc (h:Arr w b t cs) (o:Obj):Arr (w.alloc o) b t cs:=h.keep ((Ato.refl w).alloc o)
theorem Arr.drewN (h:Arr w b t cs) (n:Nat):Arr (w.drewN n) b t cs:=h
theorem Arr.drew (h:Arr w b t cs):Arr w.drew b t cs:=h
theorem Arr.lt (h:Arr w b t cs):b<w.heap.size:=(Array.getElem?_eq_some_iff.1 h).1
theorem Arr.grown {w':World} {row:Option Nat} (h:Arr w b t cs) (hg:w.grownBy w' row) (hne:some b≠row):Arr w' b t cs:=by
 unfold Arr; rw [hg.block b h.lt hne]; exact h
end
theorem Arr.ne {w:World} {b c:Nat} {t u:TypeId} {xs ys:List Value} (h:Arr w b t xs) (k:Arr w c u ys) (hne:t≠u):b≠c:=by
 rintro rfl
 unfold Arr at h k; rw [h] at k
 simp only [Option.some.injEq,Obj.cells.injEq] at k
 exact hne k.2.1
theorem Arr.new (w:World) (cs:Array Value) (t:TypeId):Arr (w.alloc (.cells cs t)) w.heap.size t cs.toList:=by unfold Arr; rw [heap_alloc_new]
theorem Arr.newAt (w:World) (cs:Array Value) (t:TypeId) (b:Nat) (hb:b=w.heap.size):Arr (w.alloc (.cells cs t)) b t cs.toList:=by subst hb; exact Arr.new w cs t
theorem Arr.five {w:World} {b:Nat} {t:TypeId} {c0 c1 c2 c3 c4:Value} (h:Arr w b t [c0,c1,c2,c3,c4]) :
  w.cell? ⟨b,0,none⟩=some c0∧w.cell? ⟨b,1,none⟩=some c1∧w.cell? ⟨b,2,none⟩=some c2∧w.cell? ⟨b,3,none⟩=some c3∧w.cell? ⟨b,4,none⟩=some c4 :=
 ⟨h.cell 0,h.cell 1,h.cell 2,h.cell 3,h.cell 4⟩
end Go.Proofs.YtnkpoloeifhflaaDoor.Kit
namespace Go.Proofs.YtnkpoloeifhflaaDoor.Kit
open Go.RowKit
def AHR:List Value:=[.func (.func 67) #[] #[],.int .u32 1518500249,.func (.func 68) #[] #[],.int .u32 1859775393,.func (.func 69) #[] #[],.int .u32 2400959708,.func (.func 70) #[] #[],.int .u32 3395469782]
set_option maxRecDepth 100000 in
theorem Bbd (w:World):Calls Tryd.prog 61 #[] w fun e w'=>e = .returned (.agg #[.func (.func 67) #[] #[],.int .u32 1518500249,.func (.func 68) #[] #[],.int .u32 1859775393,.func (.func 69) #[] #[],.int .u32 2400959708,.func (.func 70) #[] #[],.int .u32 3395469782])∧Ato w w':=by
 go_enter Tryd.func61,Tryd.ntmps61
 go_wp2
 refine bodyPost_ret (v := .agg #[.func (.func 67) #[] #[],.int .u32 1518500249,.func (.func 68) #[] #[],.int .u32 1859775393,.func (.func 69) #[] #[],.int .u32 2400959708,.func (.func 70) #[] #[],.int .u32 3395469782]) (by simp [results,Tryd.results61,go_sem]) rfl ⟨rfl,?_⟩
 exact (Ato.refl w).alloc _
theorem AKi {P:Program} {f:FuncId} {args:Array Value} {w:World} {v:Value} (h:Calls P f args w fun e w'=>e = .returned v∧w=w'):Calls P f args w fun e w''=>e = .returned v∧w''=w :=
 h.mono fun _ _ ⟨he,hm⟩=>⟨he,hm.symm⟩
def BbE:Array Value:=(ALP 80).toArray
theorem Tryd.zero80' (w:World):(zeroValue 96).run Tryd.prog w = .ok (.agg BbE) w:=by kernel_rfl
theorem AOI (L:List Nat) (i:Nat) (hi:i<80) (hL:L.length=80) (w:World):(Instr.index 96 (.agg (AxU L).toArray) (.int .i64 (i:Int))).run Tryd.prog w = .ok (.int .u32 ((L.getD i 0:Nat):Int)) w:=by
 have h1:∀ w:World,(isAgg 70).run Tryd.prog w = .ok false w:=fun w=>by kernel_rfl
 have h2:∀ w:World,(sizeOf 70).run Tryd.prog w = .ok 1 w:=fun w=>by kernel_rfl
 have h3:(0:Int)≤i∧(i:Int)<80:=by omega
 simp [Instr.index,run_underlying Tryd.underlying96,asIntOf,h2,part,h1,go_sem]
 have h5:(AxU L)[i]?=some (.int .u32 ((L.getD i 0:Nat):Int)):=ASm L i (by omega)
 rw [if_pos hi,h5]; simp
set_option maxRecDepth 100000 in
set_option maxHeartbeats 8000000 in
theorem block (g:Nat) (h:V5) (vr vs:Value) (a:Option Addr) (cap:Nat) (p:List UInt8) (w:World) (hh:h.ok) (hb:Bs w a p) (hp:p.length=64) (hd:Arr w g 95 (AxU h.list++[vr,vs])) :
  Calls Tryd.prog 47 #[.pointer (some ⟨g,0,none⟩),.slice a 64 cap] w fun e w' =>
   e = .returned (.tuple #[])∧Arr w' g 95 (AxU (blk h p).list++[vr,vs])∧w.grownBy w' (some g):=by
 have HP:=Lib.hid hp
 have hz:=Tryd.zero80'
 clear hp
 go_enter Tryd.func47,Tryd.ntmps47
 go_upto_block 0 with (fail)
 have h2:Arr (w.alloc (.cells BbE 96)) w.heap.size 96 (ALP 80):=Arr.newAt _ _ _ _ (by simp)
 have hk0:Ato w (w.alloc (.cells BbE 96)):=(Ato.refl w).alloc _
 go_cut [] (fun wc=>Arr wc w.heap.size 96 (AxU (wl p 80)++ALP (80 - 80))∧Ato w wc)
 case first =>
  go_wp2
  go_loopw [5,13] (fun _ i wr=>∃ k:Nat,k≤80∧i = .int .i64 k∧Arr wr w.heap.size 96 (AxU (wl p k)++ALP (80 - k))∧Ato w wr) (fun _ i _=>80 - (intOf i).toNat)
  case atStart=>exact ⟨0,by omega,rfl,h2,hk0⟩
  case round =>
   clear h2 hk0
   obtain ⟨k,hk,rfl,h2,hk0⟩:=hrel
   by_cases hlt:k<80
   ·have hc:wr.cell? ⟨w.heap.size,k,none⟩=some (.int .u32 0):=by rw [h2.cell]; exact AT8 p k (by omega)
    have hf:=h2.frozen k
    have hki:(k:Int)<80:=by omega
    by_cases h16:k<16
    ·have hp:=HP.out
     obtain ⟨b,off,x0,rfl,hc0,hx0,HX0⟩:=(hb.keep hk0).at (j:=4*k) (by omega)
     obtain ⟨x1,hc1,hx1,HX1⟩:=(hb.keep hk0).at' (j:=4*k+1) (by omega)
     obtain ⟨x2,hc2,hx2,HX2⟩:=(hb.keep hk0).at' (j:=4*k+2) (by omega)
     obtain ⟨x3,hc3,hx3,HX3⟩:=(hb.keep hk0).at' (j:=4*k+3) (by omega)
     clear hp
     have s0:IntKind.i64.wrap (4*(k:Int))=4*(k:Int):=IntWalk.i64_in _ (by omega)
     have s1:IntKind.i64.wrap (4*(k:Int)+1)=4*(k:Int)+1:=IntWalk.i64_in _ (by omega)
     have s2:IntKind.i64.wrap (4*(k:Int)+2)=4*(k:Int)+2:=IntWalk.i64_in _ (by omega)
     have s3:IntKind.i64.wrap (4*(k:Int)+3)=4*(k:Int)+3:=IntWalk.i64_in _ (by omega)
     have t0:(4*(k:Int)).toNat=4*k:=by omega
     have t1:(4*(k:Int)+1).toNat=4*k+1:=by omega
     have t2:(4*(k:Int)+2).toNat=4*k+2:=by omega
     have t3:(4*(k:Int)+3).toNat=4*k+3:=by omega
     have g0:(4*(k:Int))<64:=by omega
     have g1:(4*(k:Int)+1)<64:=by omega
     have g2:(4*(k:Int)+2)<64:=by omega
     have g3:(4*(k:Int)+3)<64:=by omega
     have p0:0≤(4*(k:Int)):=by omega
     have p1:0≤(4*(k:Int)+1):=by omega
     have p2:0≤(4*(k:Int)+2):=by omega
     have p3:0≤(4*(k:Int)+3):=by omega
     go_upto_region 5 with (fail)
     go_still_tail 35,(by kernel_rfl)
     go_wp2
     go_roundw
     case rel =>
      go_light
      refine ⟨k+1,by omega,by go_num,?_,Below.drew (Below.setCell hk0 (Nat.le_refl _) _)⟩
      have h5:=Arr.set h2 k (.int .u32 ((AZz p (4*k):Nat):Int))
      rw [AUD p k _ hlt (by unfold AQZ; rw [if_pos h16])] at h5
      have e:((AZz p (4*k):Nat):Int)=bits .or .u32 (bits .or .u32 (bits .or .u32 ((x0.toNat:Int)*16777216) ((x1.toNat:Int)*65536)) ((x2.toNat:Int)*256)) (x3.toNat:Int):=by
       rw [AUR]; unfold AZz; rw [←HX0.out,←HX1.out,←HX2.out,←HX3.out]
      rw [e] at h5
      exact h5
     case measure=>simp [intOf]; omega
    ·have r3:wr.cell? ⟨w.heap.size,k - 3,none⟩=some (.int .u32 (((wl p k).getD (k - 3) 0:Nat):Int)):=by rw [h2.cell]; exact AED p k _ (by omega)
     have r8:wr.cell? ⟨w.heap.size,k - 8,none⟩=some (.int .u32 (((wl p k).getD (k - 8) 0:Nat):Int)):=by rw [h2.cell]; exact AED p k _ (by omega)
     have r14:wr.cell? ⟨w.heap.size,k - 14,none⟩=some (.int .u32 (((wl p k).getD (k - 14) 0:Nat):Int)):=by rw [h2.cell]; exact AED p k _ (by omega)
     have r16:wr.cell? ⟨w.heap.size,k - 16,none⟩=some (.int .u32 (((wl p k).getD (k - 16) 0:Nat):Int)):=by rw [h2.cell]; exact AED p k _ (by omega)
     have hn:AQZ p (wl p k) k=rot ((((wl p k).getD (k - 3) 0 ^^^ (wl p k).getD (k - 8) 0) ^^^ (wl p k).getD (k - 14) 0) ^^^ (wl p k).getD (k - 16) 0) 1:=by unfold AQZ; rw [if_neg (by omega)]
     have b3:=Axe p k (k - 3)
     have b8:=Axe p k (k - 8)
     have b14:=Axe p k (k - 14)
     have b16:=Axe p k (k - 16)
     generalize (wl p k).getD (k - 3) 0=x3 at *
     generalize (wl p k).getD (k - 8) 0=x8 at *
     generalize (wl p k).getD (k - 14) 0=x14 at *
     generalize (wl p k).getD (k - 16) 0=x16 at *
     have HN:=Lib.hid hn; clear hn
     have s3:IntKind.i64.wrap ((k:Int) - 3)=(k:Int) - 3:=IntWalk.i64_in _ (by omega)
     have t3:((k:Int) - 3).toNat=k - 3:=by omega
     have g3:((k:Int) - 3)<80:=by omega
     have p3:(3:Int)≤k:=by omega
     have s8:IntKind.i64.wrap ((k:Int) - 8)=(k:Int) - 8:=IntWalk.i64_in _ (by omega)
     have t8:((k:Int) - 8).toNat=k - 8:=by omega
     have g8:((k:Int) - 8)<80:=by omega
     have p8:(8:Int)≤k:=by omega
     have s14:IntKind.i64.wrap ((k:Int) - 14)=(k:Int) - 14:=IntWalk.i64_in _ (by omega)
     have t14:((k:Int) - 14).toNat=k - 14:=by omega
     have g14:((k:Int) - 14)<80:=by omega
     have p14:(14:Int)≤k:=by omega
     have s16:IntKind.i64.wrap ((k:Int) - 16)=(k:Int) - 16:=IntWalk.i64_in _ (by omega)
     have t16:((k:Int) - 16).toNat=k - 16:=by omega
     have g16:((k:Int) - 16)<80:=by omega
     have p16:(16:Int)≤k:=by omega
     go_upto_region 6 with (fail)
     go_still_tail 22,(by kernel_rfl)
     refine wpStill_step (fun K hK => ?_)
     go_simp
     rw [AUy _ _ _ _ b3 b8 b14 b16]
     refine ⟨_,AKi (ALi _ _ _ (Aul (Aul (Aul b3 b8) b14) b16) (.inl rfl)),hK _ ?_⟩
     clear hK K
     repeat still_step
     refine wpStill_nil ?_
     go_wp2
     go_roundw
     case rel =>
      go_light
      refine ⟨k+1,by omega,by go_num,?_,Below.drew (Below.setCell hk0 (Nat.le_refl _) _)⟩
      have h5:=Arr.set h2 k (.int .u32 ((rot (((x3 ^^^ x8) ^^^ x14) ^^^ x16) 1:Nat):Int))
      rw [AUD p k _ hlt HN.out.symm] at h5
      exact h5
     case measure=>simp [intOf]; omega
   ·have HK:=Lib.hid (show k=80 by omega)
    rw [HK.out] at h2
    go_wp2
    go_meet
    case rel=>exact ⟨h2,hk0⟩
 case rest =>
  clear h2 hk0
  obtain ⟨h2,hk0⟩:=hcut
  obtain ⟨wb,rfl⟩:∃ wb:World,wb=wc:=⟨_,rfl⟩
  have hgw:g<w.heap.size:=hd.lt
  have hdc:Arr wb g 95 (AxU h.list++[vr,vs]):=hd.keep hk0
  have c0:wb.cell? ⟨g,0,none⟩=some (.int .u32 h.a):=hdc.cell 0
  have c1:wb.cell? ⟨g,1,none⟩=some (.int .u32 h.b):=hdc.cell 1
  have c2:wb.cell? ⟨g,2,none⟩=some (.int .u32 h.c):=hdc.cell 2
  have c3:wb.cell? ⟨g,3,none⟩=some (.int .u32 h.d):=hdc.cell 3
  have c4:wb.cell? ⟨g,4,none⟩=some (.int .u32 h.e):=hdc.cell 4
  go_wp2_with fail
  (with_reducible refine (Bbd _).mono ?_)
  rintro e w2 ⟨rfl,hk2⟩
  have hv0:Arr w2 wb.heap.size 71 (AxU h.list):=Arr.keep (Arr.new wb #[.int .u32 h.a,.int .u32 h.b,.int .u32 h.c,.int .u32 h.d,.int .u32 h.e] 71) hk2
  have h22:Arr w2 w.heap.size 96 (AxU (wl p 80)++ALP (80 - 80)):=(h2.alloc _).keep hk2
  have hk3:Ato w w2:=(hk0.alloc _).trans hk2
  have hsz:wb.heap.size<w2.heap.size:=hv0.lt
  have hle:w.heap.size≤wb.heap.size:=Below.size hk0
  have hwl:wb.heap.size≠w.heap.size:=fun e=>absurd h2.lt (by omega)
  clear h2 hk0 hk2 hdc c0 c1 c2 c3 c4
  have hwl2:ALP (80 - 80)=[]:=rfl
  have hmx0:Arr (w2.alloc (.cells #[.func (.func 67) #[] #[],.int .u32 1518500249,.func (.func 68) #[] #[],.int .u32 1859775393,.func (.func 69) #[] #[],.int .u32 2400959708,.func (.func 70) #[] #[],.int .u32 3395469782] 122)) w2.heap.size 122 AHR:=Arr.new _ _ _
  have hv1:=hv0.alloc (.cells #[.func (.func 67) #[] #[],.int .u32 1518500249,.func (.func 68) #[] #[],.int .u32 1859775393,.func (.func 69) #[] #[],.int .u32 2400959708,.func (.func 70) #[] #[],.int .u32 3395469782] 122)
  have h23:=h22.alloc (.cells #[.func (.func 67) #[] #[],.int .u32 1518500249,.func (.func 68) #[] #[],.int .u32 1859775393,.func (.func 69) #[] #[],.int .u32 2400959708,.func (.func 70) #[] #[],.int .u32 3395469782] 122)
  have hk4:=hk3.alloc (.cells #[.func (.func 67) #[] #[],.int .u32 1518500249,.func (.func 68) #[] #[],.int .u32 1859775393,.func (.func 69) #[] #[],.int .u32 2400959708,.func (.func 70) #[] #[],.int .u32 3395469782] 122)
  rw [hwl2,List.append_nil] at h23
  unfold Arr at h23
  go_upto_block 2 with (with_reducible refine wpList_load_row rfl 96 _ rfl w.heap.size rfl 96 (AxU (wl p 80)).toArray (0,0) _ h23 Tryd.underlying96 rfl (by rw [List.size_toArray,ABy,ADs]; kernel_rfl) ?_)
  clear h22 h23 hwl2 hv0 hk3
  have hidx:=fun (i:Nat) (hi:i<80) (w:World)=>AOI (wl p 80) i hi (ADs p 80) w
  have HI:=Lib.hid hidx; clear hidx
  go_cut [] (fun wr=>Arr wr wb.heap.size 71 (AxU (ATq 0 h (wl p 80)).list)∧Ato w wr)
  case first =>
   generalize hW:(AxU (wl p 80)).toArray=WA at *
   have HW:=Lib.hid hW; clear hW
   go_wp2
   go_loopw [8,9,10,11,82] (fun _ _ _ _ i wr=>∃ (i':Nat) (v:V5),i'≤80∧i = .int .i64 i'∧v.ok∧Arr wr wb.heap.size 71 (AxU v.list)∧AHo p h i' v∧Arr wr w2.heap.size 122 AHR∧Ato w wr) (fun _ _ _ _ i _=>80 - (intOf i).toNat)
   case atStart=>exact ⟨0,h,by omega,rfl,hh,hv1,AHo.zero p h,hmx0,hk4⟩
   case round =>
    clear hv1 hmx0 hk4
    obtain ⟨i,v,hi,rfl,hv,hva,hr,hmx,hk⟩:=hrel
    by_cases hlt:i<80
    ·obtain ⟨c0,c1,c2,c3,c4⟩:=hva.five
     have f0:=hva.frozen 0
     have f1:=hva.frozen 1
     have f2:=hva.frozen 2
     have f3:=hva.frozen 3
     have f4:=hva.frozen 4
     have hx:=HI.out i hlt
     have bw:=Axe p 80 i
     have HR:=hr.succ hlt; clear hr
     generalize (wl p 80).getD i 0=x at *
     obtain ⟨va,vb,vc,vd,ve⟩:=v
     obtain ⟨ba,bb,bc,bd,be⟩:=hv
     simp only at ba bb bc bd be c0 c1 c2 c3 c4
     have hs1:wb.heap.size<wr.heap.size:=hva.lt
     have hs2:w2.heap.size<wr.heap.size:=hmx.lt
     rcases (show i<20∨(20≤i∧i<40)∨(40≤i∧i<60)∨60≤i from by omega) with hq | ⟨hq,hq2⟩ | ⟨hq,hq2⟩ | hq
     ·have hq20:(i:Int) / 20=0:=by omega
      have hm0:wr.cell? ⟨w2.heap.size,0,none⟩=some (.func (.func 67) #[] #[]):=hmx.cell 0
      have hm1:wr.cell? ⟨w2.heap.size,1,none⟩=some (.int .u32 1518500249):=hmx.cell 1
      have hrt:ABf i ⟨va,vb,vc,vd,ve⟩ x=((((rot va 5+sf1 vb vc vd) % 4294967296+ve) % 4294967296+1518500249) % 4294967296+x) % 4294967296:=by unfold ABf; rw [BdN hq,BdJ hq]
      have HT:=Lib.hid hrt; clear hrt
      go_upto_region 14 with (fail)
      go_cut [11] (fun t wq=>t = .int .u32 (ABf i ⟨va,vb,vc,vd,ve⟩ x:Nat)∧Arr wq wb.heap.size 71 (AxU (V5.list ⟨va,vb,vc,vd,ve⟩))∧Arr wq w2.heap.size 122 AHR∧Ato w wq)
      case first =>
       go_quiet ((first | (go_at_call 60; exact Ayr (ALi _ _ _ ba (.inr (.inl rfl)))) | (go_at_call 67; exact Ayr (BeI _ _ _ _ bb bc bd))))
       go_wp2
       go_meet
       case rel =>
        go_light
        refine ⟨?_,(hva.alloc _).drewN _,(hmx.alloc _).drewN _,(hk.alloc _).drewN _⟩
        have e2:((ABf i ⟨va,vb,vc,vd,ve⟩ x:Nat):Int)=(((rot va 5:Nat):Int)+(sf1 vb vc vd:Nat)+ve+1518500249+x) % 4294967296:=by rw [HT.out]; omega
        rw [e2]
        exact congrArg (Value.int .u32) (by omega)
      case rest =>
       clear c0 c1 c2 c3 c4 f0 f1 f2 f3 f4 hva hmx hk hm0 hm1
       obtain ⟨rfl,hva,hmx,hk⟩:=hcut
       obtain ⟨c0,c1,c2,c3,c4⟩:=hva.five
       have f0:=hva.frozen 0
       have f1:=hva.frozen 1
       have f2:=hva.frozen 2
       have f3:=hva.frozen 3
       have f4:=hva.frozen 4
       generalize hT:ABf i ⟨va,vb,vc,vd,ve⟩ x=T at *
       have HT2:=Lib.hid hT; clear hT
       go_upto_region 15 with (fail)
       go_still_tail 11,(by kernel_rfl)
       still_call (AKi (ALi _ _ _ bb (.inr (.inr rfl))))
       repeat still_step
       refine wpStill_nil ?_
       go_wp2
       go_roundw
       case rel =>
        go_light
        have n2:w2.heap.size≠wb.heap.size:=by omega
        refine ⟨i+1,rnd i ⟨va,vb,vc,vd,ve⟩ x,by omega,by go_num,AQe i x ⟨ba,bb,bc,bd,be⟩,?_,HR,?_,?_⟩
        ·have h5:=(((((hva.set 0 (.int .u32 T)).set 1 (.int .u32 va)).set 2 (.int .u32 (rot vb 30:Nat))).set 3 (.int .u32 vc)).set 4 (.int .u32 vd)).drew
         have e3:AxU (rnd i ⟨va,vb,vc,vd,ve⟩ x).list=[.int .u32 T,.int .u32 va,.int .u32 (rot vb 30:Nat),.int .u32 vc,.int .u32 vd]:=by rw [←HT2.out]; rfl
         rw [e3]
         exact h5
        ·exact (((((hmx.other _ _ n2).other _ _ n2).other _ _ n2).other _ _ n2).other _ _ n2).drew
        ·exact Below.drew (Below.setCell (Below.setCell (Below.setCell (Below.setCell (Below.setCell hk (p:=⟨wb.heap.size,0,none⟩) hle _) (p:=⟨wb.heap.size,1,none⟩) hle _) (p:=⟨wb.heap.size,2,none⟩) hle _) (p:=⟨wb.heap.size,3,none⟩) hle _) (p:=⟨wb.heap.size,4,none⟩) hle _)
       case measure=>simp [intOf]; omega
     ·have hq20:(i:Int) / 20=1:=by omega
      have hm0:wr.cell? ⟨w2.heap.size,2,none⟩=some (.func (.func 68) #[] #[]):=hmx.cell 2
      have hm1:wr.cell? ⟨w2.heap.size,3,none⟩=some (.int .u32 1859775393):=hmx.cell 3
      have hrt:ABf i ⟨va,vb,vc,vd,ve⟩ x=((((rot va 5+sf2 vb vc vd) % 4294967296+ve) % 4294967296+1859775393) % 4294967296+x) % 4294967296:=by unfold ABf; rw [BdW hq hq2,BdO hq hq2]
      have HT:=Lib.hid hrt; clear hrt
      go_upto_region 14 with (fail)
      go_cut [11] (fun t wq=>t = .int .u32 (ABf i ⟨va,vb,vc,vd,ve⟩ x:Nat)∧Arr wq wb.heap.size 71 (AxU (V5.list ⟨va,vb,vc,vd,ve⟩))∧Arr wq w2.heap.size 122 AHR∧Ato w wq)
      case first =>
       go_quiet ((first | (go_at_call 60; exact Ayr (ALi _ _ _ ba (.inr (.inl rfl)))) | (go_at_call 68; exact Ayr (BeH _ _ _ _ bb bc bd))))
       go_wp2
       go_meet
       case rel =>
        go_light
        refine ⟨?_,(hva.alloc _).drewN _,(hmx.alloc _).drewN _,(hk.alloc _).drewN _⟩
        have e2:((ABf i ⟨va,vb,vc,vd,ve⟩ x:Nat):Int)=(((rot va 5:Nat):Int)+(sf2 vb vc vd:Nat)+ve+1859775393+x) % 4294967296:=by rw [HT.out]; omega
        rw [e2]
        exact congrArg (Value.int .u32) (by omega)
      case rest =>
       clear c0 c1 c2 c3 c4 f0 f1 f2 f3 f4 hva hmx hk hm0 hm1
       obtain ⟨rfl,hva,hmx,hk⟩:=hcut
       obtain ⟨c0,c1,c2,c3,c4⟩:=hva.five
       have f0:=hva.frozen 0
       have f1:=hva.frozen 1
       have f2:=hva.frozen 2
       have f3:=hva.frozen 3
       have f4:=hva.frozen 4
       generalize hT:ABf i ⟨va,vb,vc,vd,ve⟩ x=T at *
       have HT2:=Lib.hid hT; clear hT
       go_upto_region 15 with (fail)
       go_still_tail 11,(by kernel_rfl)
       still_call (AKi (ALi _ _ _ bb (.inr (.inr rfl))))
       repeat still_step
       refine wpStill_nil ?_
       go_wp2
       go_roundw
       case rel =>
        go_light
        have n2:w2.heap.size≠wb.heap.size:=by omega
        refine ⟨i+1,rnd i ⟨va,vb,vc,vd,ve⟩ x,by omega,by go_num,AQe i x ⟨ba,bb,bc,bd,be⟩,?_,HR,?_,?_⟩
        ·have h5:=(((((hva.set 0 (.int .u32 T)).set 1 (.int .u32 va)).set 2 (.int .u32 (rot vb 30:Nat))).set 3 (.int .u32 vc)).set 4 (.int .u32 vd)).drew
         have e3:AxU (rnd i ⟨va,vb,vc,vd,ve⟩ x).list=[.int .u32 T,.int .u32 va,.int .u32 (rot vb 30:Nat),.int .u32 vc,.int .u32 vd]:=by rw [←HT2.out]; rfl
         rw [e3]
         exact h5
        ·exact (((((hmx.other _ _ n2).other _ _ n2).other _ _ n2).other _ _ n2).other _ _ n2).drew
        ·exact Below.drew (Below.setCell (Below.setCell (Below.setCell (Below.setCell (Below.setCell hk (p:=⟨wb.heap.size,0,none⟩) hle _) (p:=⟨wb.heap.size,1,none⟩) hle _) (p:=⟨wb.heap.size,2,none⟩) hle _) (p:=⟨wb.heap.size,3,none⟩) hle _) (p:=⟨wb.heap.size,4,none⟩) hle _)
       case measure=>simp [intOf]; omega
     ·have hq20:(i:Int) / 20=2:=by omega
      have hm0:wr.cell? ⟨w2.heap.size,4,none⟩=some (.func (.func 69) #[] #[]):=hmx.cell 4
      have hm1:wr.cell? ⟨w2.heap.size,5,none⟩=some (.int .u32 2400959708):=hmx.cell 5
      have hrt:ABf i ⟨va,vb,vc,vd,ve⟩ x=((((rot va 5+sf3 vb vc vd) % 4294967296+ve) % 4294967296+2400959708) % 4294967296+x) % 4294967296:=by unfold ABf; rw [Beg hq hq2,Bef hq hq2]
      have HT:=Lib.hid hrt; clear hrt
      go_upto_region 14 with (fail)
      go_cut [11] (fun t wq=>t = .int .u32 (ABf i ⟨va,vb,vc,vd,ve⟩ x:Nat)∧Arr wq wb.heap.size 71 (AxU (V5.list ⟨va,vb,vc,vd,ve⟩))∧Arr wq w2.heap.size 122 AHR∧Ato w wq)
      case first =>
       go_quiet ((first | (go_at_call 60; exact Ayr (ALi _ _ _ ba (.inr (.inl rfl)))) | (go_at_call 69; exact Ayr (Bep _ _ _ _ bb bc bd))))
       go_wp2
       go_meet
       case rel =>
        go_light
        refine ⟨?_,(hva.alloc _).drewN _,(hmx.alloc _).drewN _,(hk.alloc _).drewN _⟩
        have e2:((ABf i ⟨va,vb,vc,vd,ve⟩ x:Nat):Int)=(((rot va 5:Nat):Int)+(sf3 vb vc vd:Nat)+ve+2400959708+x) % 4294967296:=by rw [HT.out]; omega
        rw [e2]
        exact congrArg (Value.int .u32) (by omega)
      case rest =>
       clear c0 c1 c2 c3 c4 f0 f1 f2 f3 f4 hva hmx hk hm0 hm1
       obtain ⟨rfl,hva,hmx,hk⟩:=hcut
       obtain ⟨c0,c1,c2,c3,c4⟩:=hva.five
       have f0:=hva.frozen 0
       have f1:=hva.frozen 1
       have f2:=hva.frozen 2
       have f3:=hva.frozen 3
       have f4:=hva.frozen 4
       generalize hT:ABf i ⟨va,vb,vc,vd,ve⟩ x=T at *
       have HT2:=Lib.hid hT; clear hT
       go_upto_region 15 with (fail)
       go_still_tail 11,(by kernel_rfl)
       still_call (AKi (ALi _ _ _ bb (.inr (.inr rfl))))
       repeat still_step
       refine wpStill_nil ?_
       go_wp2
       go_roundw
       case rel =>
        go_light
        have n2:w2.heap.size≠wb.heap.size:=by omega
        refine ⟨i+1,rnd i ⟨va,vb,vc,vd,ve⟩ x,by omega,by go_num,AQe i x ⟨ba,bb,bc,bd,be⟩,?_,HR,?_,?_⟩
        ·have h5:=(((((hva.set 0 (.int .u32 T)).set 1 (.int .u32 va)).set 2 (.int .u32 (rot vb 30:Nat))).set 3 (.int .u32 vc)).set 4 (.int .u32 vd)).drew
         have e3:AxU (rnd i ⟨va,vb,vc,vd,ve⟩ x).list=[.int .u32 T,.int .u32 va,.int .u32 (rot vb 30:Nat),.int .u32 vc,.int .u32 vd]:=by rw [←HT2.out]; rfl
         rw [e3]
         exact h5
        ·exact (((((hmx.other _ _ n2).other _ _ n2).other _ _ n2).other _ _ n2).other _ _ n2).drew
        ·exact Below.drew (Below.setCell (Below.setCell (Below.setCell (Below.setCell (Below.setCell hk (p:=⟨wb.heap.size,0,none⟩) hle _) (p:=⟨wb.heap.size,1,none⟩) hle _) (p:=⟨wb.heap.size,2,none⟩) hle _) (p:=⟨wb.heap.size,3,none⟩) hle _) (p:=⟨wb.heap.size,4,none⟩) hle _)
       case measure=>simp [intOf]; omega
     ·have hq20:(i:Int) / 20=3:=by omega
      have hm0:wr.cell? ⟨w2.heap.size,6,none⟩=some (.func (.func 70) #[] #[]):=hmx.cell 6
      have hm1:wr.cell? ⟨w2.heap.size,7,none⟩=some (.int .u32 3395469782):=hmx.cell 7
      have hrt:ABf i ⟨va,vb,vc,vd,ve⟩ x=((((rot va 5+sf2 vb vc vd) % 4294967296+ve) % 4294967296+3395469782) % 4294967296+x) % 4294967296:=by unfold ABf; rw [Bd4 hq,BdB hq]
      have HT:=Lib.hid hrt; clear hrt
      go_upto_region 14 with (fail)
      go_cut [11] (fun t wq=>t = .int .u32 (ABf i ⟨va,vb,vc,vd,ve⟩ x:Nat)∧Arr wq wb.heap.size 71 (AxU (V5.list ⟨va,vb,vc,vd,ve⟩))∧Arr wq w2.heap.size 122 AHR∧Ato w wq)
      case first =>
       go_quiet ((first | (go_at_call 60; exact Ayr (ALi _ _ _ ba (.inr (.inl rfl)))) | (go_at_call 70; exact Ayr (Bev _ _ _ _ bb bc bd))))
       go_wp2
       go_meet
       case rel =>
        go_light
        refine ⟨?_,(hva.alloc _).drewN _,(hmx.alloc _).drewN _,(hk.alloc _).drewN _⟩
        have e2:((ABf i ⟨va,vb,vc,vd,ve⟩ x:Nat):Int)=(((rot va 5:Nat):Int)+(sf2 vb vc vd:Nat)+ve+3395469782+x) % 4294967296:=by rw [HT.out]; omega
        rw [e2]
        exact congrArg (Value.int .u32) (by omega)
      case rest =>
       clear c0 c1 c2 c3 c4 f0 f1 f2 f3 f4 hva hmx hk hm0 hm1
       obtain ⟨rfl,hva,hmx,hk⟩:=hcut
       obtain ⟨c0,c1,c2,c3,c4⟩:=hva.five
       have f0:=hva.frozen 0
       have f1:=hva.frozen 1
       have f2:=hva.frozen 2
       have f3:=hva.frozen 3
       have f4:=hva.frozen 4
       generalize hT:ABf i ⟨va,vb,vc,vd,ve⟩ x=T at *
       have HT2:=Lib.hid hT; clear hT
       go_upto_region 15 with (fail)
       go_still_tail 11,(by kernel_rfl)
       still_call (AKi (ALi _ _ _ bb (.inr (.inr rfl))))
       repeat still_step
       refine wpStill_nil ?_
       go_wp2
       go_roundw
       case rel =>
        go_light
        have n2:w2.heap.size≠wb.heap.size:=by omega
        refine ⟨i+1,rnd i ⟨va,vb,vc,vd,ve⟩ x,by omega,by go_num,AQe i x ⟨ba,bb,bc,bd,be⟩,?_,HR,?_,?_⟩
        ·have h5:=(((((hva.set 0 (.int .u32 T)).set 1 (.int .u32 va)).set 2 (.int .u32 (rot vb 30:Nat))).set 3 (.int .u32 vc)).set 4 (.int .u32 vd)).drew
         have e3:AxU (rnd i ⟨va,vb,vc,vd,ve⟩ x).list=[.int .u32 T,.int .u32 va,.int .u32 (rot vb 30:Nat),.int .u32 vc,.int .u32 vd]:=by rw [←HT2.out]; rfl
         rw [e3]
         exact h5
        ·exact (((((hmx.other _ _ n2).other _ _ n2).other _ _ n2).other _ _ n2).other _ _ n2).drew
        ·exact Below.drew (Below.setCell (Below.setCell (Below.setCell (Below.setCell (Below.setCell hk (p:=⟨wb.heap.size,0,none⟩) hle _) (p:=⟨wb.heap.size,1,none⟩) hle _) (p:=⟨wb.heap.size,2,none⟩) hle _) (p:=⟨wb.heap.size,3,none⟩) hle _) (p:=⟨wb.heap.size,4,none⟩) hle _)
       case measure=>simp [intOf]; omega
    ·have HK:=Lib.hid (show i=80 by omega)
     rw [HK.out] at hr
     have hva':=hva
     rw [hr.last] at hva'
     clear hva hr
     go_wp2
     go_meet
     case rel=>exact ⟨hva',hk⟩
  case rest =>
   clear hv1 hmx0 hk4 HI
   obtain ⟨hva,hk⟩:=hcut
   have hV:(ATq 0 h (wl p 80)).ok:=AWY _ _ _ hh
   have hB:blk h p=A68 h (ATq 0 h (wl p 80)):=rfl
   have HB:=Lib.hid hB; clear hB
   generalize ATq 0 h (wl p 80)=V at *
   go_wp2
   go_loopw [12,123] (fun _ i wr=>∃ k:Nat,k≤5∧i = .int .i64 k∧Arr wr wb.heap.size 71 (AxU V.list)∧Arr wr g 95 (AxU (A44 h V k)++[vr,vs])∧w.grownBy wr (some g)) (fun _ i _=>5 - (intOf i).toNat)
   case atStart=>exact ⟨0,by omega,rfl,hva,hd.keep hk,⟨hk.os,hk.tape,hk.output,hk.size,fun j hj _=>hk.block j hj⟩⟩
   case round =>
    clear hva hk
    obtain ⟨k,hk,rfl,hva,hdr,hgr⟩:=hrel
    by_cases hlt:k<5
    ·have cv:wr.cell? ⟨wb.heap.size,k,none⟩=some (.int .u32 ((V.list.getD k 0:Nat):Int)):=by rw [hva.cell]; exact AKC V k hlt
     have ch:wr.cell? ⟨g,k,none⟩=some (.int .u32 ((h.list.getD k 0:Nat):Int)):=by
      rw [hdr.cell,List.getElem?_append_left (by rw [ABy,AOV]; exact hlt)]; exact AVj h V k hlt
     have fh:=hdr.frozen k
     have b1:=hV.get k
     have b2:=hh.get k
     have hs:=AUY h V k hlt
     have HS:=Lib.hid hs; clear hs
     generalize V.list.getD k 0=x at *
     generalize h.list.getD k 0=y at *
     have hki:(k:Int)<5:=by omega
     go_upto_region 20 with (fail)
     go_still_tail 13,(by kernel_rfl)
     go_wp2
     go_roundw
     case rel =>
      go_light
      have ne1:wb.heap.size≠g:=by omega
      refine ⟨k+1,by omega,by go_num,(hva.other _ _ ne1).drew,?_,?_⟩
      ·have h5:=(hdr.set k (.int .u32 (((y+x) % 4294967296:Nat):Int))).drew
       rw [List.set_append_left _ _ (by rw [ABy,AOV]; exact hlt),HS.out,show (((y+x) % 4294967296:Nat):Int)=((y:Int)+x) % 4294967296 from by omega] at h5
       exact h5
      ·exact AYq (ASM hgr (p:=⟨g,k,none⟩) (.inl rfl) _)
     case measure=>simp [intOf]; omega
    ·have HK:=Lib.hid (show k=5 by omega)
     rw [HK.out,ATd] at hdr
     go_wp2
     go_end0
     rw [HB.out]
     exact ⟨rfl,hdr,hgr⟩
end Go.Proofs.YtnkpoloeifhflaaDoor.Kit
namespace Go.Proofs.YtnkpoloeifhflaaDoor.Kit
open Go.RowKit
def Seg (w:World) (base:Nat) (e:TypeId) (size:Nat) (v:Value) (n:Nat) (xs:List Value):Prop :=
 xs.length=n*size ∧
 ((v = .slice none 0 0∧n=0) ∨
 ∃ g off cap cur,v = .slice (some ⟨g,off,none⟩) n cap∧base≤g∧w.heap[g]?=some (.cells cur e (0,0))∧n≤cap∧cap≤maxLen∧off+cap*size≤cur.size∧(cur.toList.drop off).take (n*size)=xs)
section
variable {w:World} {base:Nat} {e:TypeId} {size:Nat} {v:Value} {n:Nat} {xs:List Value}
theorem Seg.nil (w:World) (base:Nat) (e:TypeId) (size:Nat):Seg w base e size (.slice none 0 0) 0 []:=⟨by simp,.inl ⟨rfl,rfl⟩⟩
theorem Seg.lt (h:Seg w base e size v n xs):∀ k,v.ownBlock=some k→base≤k∧k<w.heap.size:=by
 intro k hk
 rcases h.2 with ⟨rfl,_⟩ | ⟨g,off,cap,cur,rfl,hb,hg,_⟩
 ·simp [Value.ownBlock] at hk
 ·simp [Value.ownBlock] at hk
  subst hk
  exact ⟨hb,(Array.getElem?_eq_some_iff.1 hg).1⟩
theorem Seg.kept {w':World} {row:Option Nat} (h:Seg w base e size v n xs) (hg:w.grownBy w' row) (hne:v.ownBlock=none∨v.ownBlock≠row):Seg w' base e size v n xs:=by
 refine ⟨h.1,?_⟩
 rcases h.2 with hn | ⟨g,off,cap,cur,rfl,hb,hgg,rest⟩
 ·exact .inl hn
 ·refine .inr ⟨g,off,cap,cur,rfl,hb,?_,rest⟩
  rw [hg.block g (Array.getElem?_eq_some_iff.1 hgg).1 (by simpa [Value.ownBlock] using hne)]
  exact hgg
theorem Seg.keep {w':World} (h:Seg w base e size v n xs) (k:Ato w w'):Seg w' base e size v n xs:=by
 refine ⟨h.1,?_⟩
 rcases h.2 with hn | ⟨g,off,cap,cur,rfl,hb,hgg,rest⟩
 ·exact .inl hn
 ·refine .inr ⟨g,off,cap,cur,rfl,hb,?_,rest⟩
  rw [Below.block k g (Array.getElem?_eq_some_iff.1 hgg).1]
  exact hgg
theorem Seg.other {w':World} (h:Seg w base e size v n xs) {g:Nat} (hb:∀ k,k<w.heap.size→k≠g→w'.heap[k]?=w.heap[k]?) (hne:v.ownBlock≠some g):Seg w' base e size v n xs:=by
 refine ⟨h.1,?_⟩
 rcases h.2 with hn | ⟨k,off,cap,cur,rfl,hbk,hgg,rest⟩
 ·exact .inl hn
 ·refine .inr ⟨k,off,cap,cur,rfl,hbk,?_,rest⟩
  rw [hb k (Array.getElem?_eq_some_iff.1 hgg).1 (fun e=>hne (by rw [e]; rfl))]
  exact hgg
theorem Seg.alloc (h:Seg w base e size v n xs) (o:Obj):Seg (w.alloc o) base e size v n xs:=h.keep ((Ato.refl w).alloc o)
theorem Seg.drewN (h:Seg w base e size v n xs) (k:Nat):Seg (w.drewN k) base e size v n xs:=h
theorem Seg.mono {base':Nat} (h:Seg w base e size v n xs) (hb:base'≤base):Seg w base' e size v n xs:=by
 refine ⟨h.1,?_⟩
 rcases h.2 with hn | ⟨k,off,cap,cur,rfl,hbk,rest⟩
 ·exact .inl hn
 ·exact .inr ⟨k,off,cap,cur,rfl,by omega,rest⟩
theorem Seg.made (w:World) (cur:Array Value) (n cap:Nat) (hb:base≤w.heap.size) (hn:n≤cap) (hm:cap≤maxLen) (hs:cap*size≤cur.size) :
  Seg (w.alloc (.cells cur e)) base e size (.slice (some ⟨w.heap.size,0,none⟩) n cap) n (cur.toList.take (n*size)):=by
 have h1:n*size≤cap*size:=Nat.mul_le_mul_right _ hn
 exact ⟨by simp; omega,.inr ⟨w.heap.size,0,cap,cur,rfl,hb,heap_alloc_new w _,hn,hm,by omega,by simp⟩⟩
theorem Seg.cells (h:Seg w base e size v n xs) {g off cap m:Nat} (hv:v = .slice (some ⟨g,off,none⟩) m cap):∀ j u,xs[j]?=some u→w.cell? ⟨g,off+j,none⟩=some u:=by
 intro j u hu
 rcases h.2 with ⟨rfl,_⟩ | ⟨g',off',cap',cur,rfl,_,hgg,_,_,hfit,htake⟩
 ·cases hv
 ·simp only [Value.slice.injEq,Option.some.injEq,Addr.mk.injEq,and_true] at hv
  obtain ⟨⟨rfl,rfl⟩,_,_⟩:=hv
  rw [cell_of_row w g' _ cur e (0,0) hgg]
  rw [←htake,List.getElem?_take] at hu
  split at hu
  ·rw [List.getElem?_drop] at hu; simpa using hu
  ·cases hu
theorem Seg.frozen (h:Seg w base e size v n xs) {g off cap m:Nat} (hv:v = .slice (some ⟨g,off,none⟩) m cap) (j:Nat):w.frozen? ⟨g,j,none⟩=false:=by
 rcases h.2 with ⟨rfl,_⟩ | ⟨g',off',cap',cur,rfl,_,hgg,_⟩
 ·cases hv
 ·simp only [Value.slice.injEq,Option.some.injEq,Addr.mk.injEq,and_true] at hv
  obtain ⟨⟨rfl,rfl⟩,_,_⟩:=hv
  exact frozen_of_row _ _ _ _ _ hgg
theorem Seg.shape (h:Seg w base e size v n xs):(v = .slice none 0 0∧n=0∧xs=[])∨∃ g off cap,v = .slice (some ⟨g,off,none⟩) n cap∧base≤g∧g<w.heap.size∧n≤cap∧cap≤9223372036854775807:=by
 rcases h.2 with ⟨rfl,rfl⟩ | ⟨g,off,cap,cur,rfl,hb,hgg,hn,hc,_⟩
 ·exact .inl ⟨rfl,rfl,List.eq_nil_of_length_eq_zero (by simpa using h.1)⟩
 ·unfold maxLen at hc
  exact .inr ⟨g,off,cap,rfl,hb,(Array.getElem?_eq_some_iff.1 hgg).1,hn,by omega⟩
theorem Seg.drop (h:Seg w base e size v n xs) {g off cap:Nat} (hv:v = .slice (some ⟨g,off,none⟩) n cap) (k:Nat) (hk:k≤n):Seg w base e size (.slice (some ⟨g,off+k*size,none⟩) (n - k) (cap - k)) (n - k) (xs.drop (k*size)):=by
 have hx:=h.1
 rcases h.2 with ⟨rfl,_⟩ | ⟨g',off',cap',cur,rfl,hb,hgg,hnc,hcm,hfit,htake⟩
 ·cases hv
 ·simp only [Value.slice.injEq,Option.some.injEq,Addr.mk.injEq,and_true] at hv
  obtain ⟨⟨rfl,rfl⟩,_,rfl⟩:=hv
  have e1:cap'*size=(cap' - k)*size+k*size:=by rw [←Nat.add_mul]; congr 1; omega
  have e2:n*size=(n - k)*size+k*size:=by rw [←Nat.add_mul]; congr 1; omega
  refine ⟨by rw [List.length_drop]; omega,.inr ⟨g',off'+k*size,cap' - k,cur,rfl,hb,hgg,by omega,by omega,by omega,?_⟩⟩
  rw [←htake,List.drop_take,List.drop_drop]
  congr 1
  omega
theorem Seg.take (h:Seg w base e size v n xs) {g off cap:Nat} (hv:v = .slice (some ⟨g,off,none⟩) n cap) (k:Nat) (hk:k≤n):Seg w base e size (.slice (some ⟨g,off,none⟩) k cap) k (xs.take (k*size)):=by
 have hx:=h.1
 rcases h.2 with ⟨rfl,_⟩ | ⟨g',off',cap',cur,rfl,hb,hgg,hnc,hcm,hfit,htake⟩
 ·cases hv
 ·simp only [Value.slice.injEq,Option.some.injEq,Addr.mk.injEq,and_true] at hv
  obtain ⟨⟨rfl,rfl⟩,_,rfl⟩:=hv
  have e2:k*size≤n*size:=Nat.mul_le_mul_right _ hk
  refine ⟨by rw [List.length_take]; omega,.inr ⟨g',off',cap',cur,rfl,hb,hgg,by omega,by omega,by omega,?_⟩⟩
  rw [←htake,List.take_take,Nat.min_eq_left e2]
end
theorem AB1 (g:Nat) (t:TypeId):∀ (vs:List Value) (o:Nat) (cs:Array Value) (w:World),w.heap[g]?=some (.cells cs t (0,0))→o+vs.length≤cs.size →
  ∃ cs':Array Value,(w.setCells g o vs).heap[g]?=some (.cells cs' t (0,0))∧cs'.size=cs.size∧cs'.toList.take o=cs.toList.take o∧(cs'.toList.drop o).take vs.length=vs∧cs'.toList.drop (o+vs.length)=cs.toList.drop (o+vs.length):=by
 intro vs
 induction vs with
 | nil=>intro o cs w h _; exact ⟨cs,h,rfl,rfl,by simp,rfl⟩
 | cons v r ih =>
  intro o cs w h hfit
  simp only [List.length_cons] at hfit
  obtain ⟨cs',h1,h2,h3,h4,h5⟩:=ih (o+1) (cs.setIfInBounds o v) (w.setCell ⟨g,o,none⟩ v) (heap_setCell_same _ _ _ _ _ _ h) (by simp; omega)
  simp only [Array.size_setIfInBounds] at h2
  have hl:(cs.setIfInBounds o v).toList=cs.toList.set o v:=by simp
  rw [hl] at h3 h5
  have ho:o<cs'.toList.length:=by simp; omega
  have hget:cs'.toList[o]?=some v:=by
   have e1:(cs'.toList.take (o+1))[o]?=cs'.toList[o]?:=by rw [List.getElem?_take,if_pos (by omega)]
   rw [←e1,h3,List.getElem?_take,if_pos (by omega),List.getElem?_set]
   simp; omega
  refine ⟨cs',h1,h2,?_,?_,?_⟩
  ·have e2:(cs'.toList.take (o+1)).take o=cs'.toList.take o:=by rw [List.take_take]; congr 1; omega
   rw [←e2,h3,List.take_take,Nat.min_eq_left (by omega),List.take_set_of_le (by omega)]
  ·rw [List.drop_eq_getElem_cons ho]
   have e3:cs'.toList[o]=v:=by rw [List.getElem?_eq_getElem ho] at hget; exact Option.some.inj hget
   rw [e3,List.length_cons,List.take_succ_cons,h4]
  ·rw [List.length_cons,show o+(r.length+1)=o+1+r.length from by omega,h5,List.drop_set_of_lt (by omega)]
section
variable {P:Program} (w:World)
theorem AIs (base:Nat) (t tx ty e:TypeId) (z:Value) (size bytes:Nat) (ht:P.underlying t=some (.slice e))
  (hinfo:(P.info? e).map (fun i=>(i.zero,i.size,i.bytes))=some (some z,size,bytes)) (hzs:z.cells.size=size)
  (v:Value) (n:Nat) (xs:List Value) (hown:Seg w base e size v n xs) (x:Value) (m:Nat) (news:List Value) (hsrc:Src P size tx x m news w)
  (h63:n+m≤maxLen) (hbytes:(n+m)*bytes≤140737488355328) (hbase:base≤w.heap.size) :
  ∃ v' w',(Builtin.append_ #[t,tx] ty #[v,x]).run P w = .ok v' w'∧Seg w' base e size v' (n+m) (xs++news)∧w.grownBy w' v.ownBlock ∧
   (v'.ownBlock=v.ownBlock∨v'.ownBlock=some w.heap.size):=by
 obtain ⟨i,hi,hzz⟩:=Option.map_eq_some_iff.1 hinfo
 simp only [Prod.mk.injEq] at hzz
 obtain ⟨hz,rfl,rfl⟩:=hzz
 have hlen:(xs++news).length=(n+m)*i.size:=by rw [List.length_append,hown.1,hsrc.newsLen,Nat.add_mul]
 have hsmall:((n+m:Nat):Int)≤9223372036854775807:=by simp only [maxLen] at h63; omega
 have grow:∀ (b:Option Addr) (cap:Nat),cap<n+m→(Builtin.firstCells i.size n (.slice b n cap)).run P w.drew = .ok xs.toArray w.drew→v = .slice b n cap →
   ∃ v' w',(Builtin.append_ #[t,tx] ty #[v,x]).run P w = .ok v' w'∧Seg w' base e i.size v' (n+m) (xs++news)∧w.grownBy w' v.ownBlock∧(v'.ownBlock=v.ownBlock∨v'.ownBlock=some w.heap.size):=by
  rintro b cap hc hold rfl
  have hr:=run_append_grow_src (P:=P) w t tx ty e i z ht hi hz b n cap xs hold x m news hsrc hc hsmall (growslice_fits hc hbytes)
  refine ⟨_,_,hr,?_,⟨rfl,rfl,rfl,by simp,fun k hk _=>Below.heap_alloc w.drew _ k hk⟩,.inr rfl⟩
  ·have hge:=grownCap_ge w (n+m) cap e
   have hcm:=grownCap_le_maxLen w (n+m) cap e h63
   have hs:grownCap w (n+m) cap e*i.size≤((xs++news).toArray++Builtin.zeroCells z.cells (grownCap w (n+m) cap e - (n+m))).size:=by
    simp only [Array.size_append,List.size_toArray,size_zeroCells,hzs,hlen,←Nat.add_mul]
    rw [show n+m+(grownCap w (n+m) cap e - (n+m))=grownCap w (n+m) cap e from by omega]
    exact Nat.le_refl _
   have h1:=Seg.made (base:=base) (e:=e) (size:=i.size) w.drew _ (n+m) _ hbase hge hcm hs
   have h2:((xs++news).toArray++Builtin.zeroCells z.cells (grownCap w (n+m) cap e - (n+m))).toList.take ((n+m)*i.size)=xs++news:=by
    rw [Array.toList_append,←hlen]; exact List.take_left
   rw [h2] at h1
   exact h1
 rcases hown.2 with ⟨rfl,rfl⟩ | ⟨g,off,cap,cur,rfl,hbg,hg,hnc,hcm,hcs,htake⟩
 ·have hx:xs=[]:=List.eq_nil_of_length_eq_zero (by simpa using hown.1)
  subst hx
  by_cases hm:m=0
  ·subst hm
   have hn:news=[]:=List.eq_nil_of_length_eq_zero (by simpa using hsrc.newsLen)
   subst hn
   have hfc:=hsrc.cells
   refine ⟨.slice none 0 0,w,?_,Seg.nil w base e i.size,⟨rfl,rfl,rfl,Nat.le_refl _,fun _ _ _=>rfl⟩,.inl rfl⟩
   rcases hsrc.kind with ⟨e',hk⟩ | hk<;>simp [Builtin.append_,run_underlying ht,run_underlying hk,sizeOf,typeInfo,hi,hsrc.len,hfc]
  ·exact grow none 0 (by omega) (run_firstCells_none w.drew i.size 0 0 0) rfl
 ·by_cases hroom:n+m≤cap
  ·have hle:(n+m)*i.size≤cap*i.size:=Nat.mul_le_mul_right _ hroom
   have hnl:=hsrc.newsLen
   have hsplit:(n+m)*i.size=n*i.size+m*i.size:=Nat.add_mul ..
   have hc:∀ j,j<news.length→(w.cell? ⟨g,off+n*i.size+j,none⟩).isSome=true:=fun j hj=>by
    rw [cell_of_row w g _ cur e (0,0) hg,Array.getElem?_eq_getElem (by omega)]; rfl
   have hf:∀ j,j<news.length→w.frozen? ⟨g,off+n*i.size+j,none⟩=false:=fun j _=>frozen_of_row _ _ _ _ _ hg
   have hr:=run_append_room_src (P:=P) w t tx ty e i ht hi g off n cap x m news hsrc hroom hc hf
   obtain ⟨cs',h1,h2,h3,h4,h5⟩:=AB1 g e news (off+n*i.size) cur w hg (by omega)
   refine ⟨_,_,hr,⟨hlen,.inr ⟨g,off,cap,cs',rfl,hbg,h1,hroom,hcm,by omega,?_⟩⟩,?_,.inl rfl⟩
   ·have e1:cs'.toList.drop off=(cs'.toList.take (off+n*i.size)).drop off++cs'.toList.drop (off+n*i.size):=by
     rw [List.drop_take,show off+n*i.size - off=n*i.size from by omega]
     have e2:cs'.toList.drop (off+n*i.size)=(cs'.toList.drop off).drop (n*i.size):=by rw [List.drop_drop]
     rw [e2,List.take_append_drop]
    have e3:(cur.toList.take (off+n*i.size)).drop off=xs:=by
     rw [List.drop_take,show off+n*i.size - off=n*i.size from by omega]; exact htake
    rw [e1,h3,e3,hsplit,List.take_append,hown.1,List.take_of_length_le (by rw [hown.1]; omega),show n*i.size+m*i.size - n*i.size=news.length from by omega,h4]
   ·have hgl:=(Array.getElem?_eq_some_iff.1 hg).1
    refine ⟨World.os_setCells ..,?_,World.output_setCells ..,?_,fun k hk hne=>World.heap_setCells_other w g _ _ hk (fun e=>hne (by rw [e]; rfl))⟩
    ·clear hr h1 hsrc hnl hc hf h4 h5 h3 hlen
     suffices h:∀ (vs:List Value) (o:Nat) (w:World),(w.setCells g o vs).tape=w.tape from h _ _ _
     intro vs
     induction vs with
     | nil=>intro o w; rfl
     | cons v r ih=>intro o w; exact (ih _ _).trans rfl
    ·clear hr h1 hsrc hnl hc hf h4 h5 h3 hlen
     suffices h:∀ (vs:List Value) (o:Nat) (w:World),w.heap.size≤(w.setCells g o vs).heap.size from h _ _ _
     intro vs
     induction vs with
     | nil=>intro o w; exact Nat.le_refl _
     | cons v r ih=>intro o w; exact Nat.le_trans (by simp [World.setCell]) (ih _ _)
  ·refine grow (some ⟨g,off,none⟩) cap (by omega) (run_firstCells_some w.drew i.size n ⟨g,off,none⟩ n cap xs hown.1 ?_) rfl
   intro j u hu
   rw [show (⟨g,off,none⟩:Addr).add j=⟨g,off+j,none⟩ from by simp [Addr.add]]
   exact hown.cells rfl j u hu
theorem AvX {ops:Array Oper} {rest:List Oper} {o:Oper} {a:Act} {Q:Exit→Act→World→Prop} (hgd:o.guard=none) (s x:Operand) (t tx:TypeId)
  (ho:o.op = .call { callee := .builtin .append,args := #[s,x],argTypes := #[t,tx] })
  (base:Nat) (e:TypeId) (z:Value) (size bytes:Nat) (ht:P.underlying t=some (.slice e))
  (hinfo:(P.info? e).map (fun i=>(i.zero,i.size,i.bytes))=some (some z,size,bytes)) (hzs:z.cells.size=size)
  (v:Value) (n:Nat) (xs:List Value) (hs:a.eval s=v) (hown:Seg w base e size v n xs)
  (vx:Value) (m:Nat) (news:List Value) (hx:a.eval x=vx) (hsrc:Src P size tx vx m news w)
  (h63:n+m≤maxLen) (hbytes:(n+m)*bytes≤140737488355328) (hbase:base≤w.heap.size)
  (h:∀ v' w',Seg w' base e size v' (n+m) (xs++news)→w.grownBy w' v.ownBlock→(v'.ownBlock=v.ownBlock∨v'.ownBlock=some w.heap.size)→wpList P ops Q rest (a.put o.dst v') w'):wpList P ops Q (o::rest) a w :=
 wpList_plain hgd fun K hK=>by
  obtain ⟨v',w',hr,h2,h3,h4⟩:=AIs (P:=P) w base t tx o.type e z size bytes ht hinfo hzs v n xs hown vx m news hsrc h63 hbytes hbase
  unfold Oper.wp execOp
  simp only [ho,resolve,invoke,builtin,Sem.run_bind,Sem.run_pure,Result.andThen_ok,List.map_toArray,List.map_cons,List.map_nil,hs,hx,hr]
  exact hK _ _ (h v' w' h2 h3 h4)
theorem Bs.srcOf {w:World} {a:Option Addr} {l:List UInt8} (h:Bs w a l) {tx e':TypeId} (hk:P.underlying tx=some (.slice e')) (c:Nat) (hn:a=none→c=c):Src P 1 tx (.slice a l.length c) l.length (bv l) w:=by
 cases a with
 | some ad =>
  refine Src.ofSlice w hk ad _ c (bv l) (by simp) (fun j u hu => ?_) (AKb l)
  by_cases hp:0<(bv l).length
  ·obtain ⟨ad',e1,h1⟩:=h.src hp
   cases e1; exact h1 j u hu
  ·rw [List.getElem?_eq_none (by omega)] at hu; cases hu
 | none =>
  have hl:l=[]:=by
   cases l with
   | nil=>rfl
   | cons x l=>obtain ⟨b,off,e,_⟩:=h 0 (by simp); cases e
  subst hl
  exact Src.ofNil w hk c
end
end Go.Proofs.YtnkpoloeifhflaaDoor.Kit
namespace Go.Proofs.YtnkpoloeifhflaaDoor.Kit
open Go.RowKit
structure Fr (S:Nat→Prop) (w w':World):Prop where
 os:w'.os=w.os
 tape:w'.tape=w.tape
 output:w'.output=w.output
 size:w.heap.size≤w'.heap.size
 block:∀ k,k<w.heap.size→¬ S k→w'.heap[k]?=w.heap[k]?
section
variable {S:Nat→Prop} {a b c w w':World}
theorem Fr.refl (S:Nat→Prop) (w:World):Fr S w w:=⟨rfl,rfl,rfl,Nat.le_refl _,fun _ _ _=>rfl⟩
theorem Fr.trans (h:Fr S a b) (k:Fr S b c):Fr S a c :=
 ⟨k.os.trans h.os,k.tape.trans h.tape,k.output.trans h.output,Nat.le_trans h.size k.size,fun i hi hn=>(k.block i (Nat.lt_of_lt_of_le hi h.size) hn).trans (h.block i hi hn)⟩
theorem Fr.then {T:Nat→Prop} (h:Fr S a b) (k:Fr T b c) (hT:∀ i,i<a.heap.size→T i→S i):Fr S a c :=
 ⟨k.os.trans h.os,k.tape.trans h.tape,k.output.trans h.output,Nat.le_trans h.size k.size,fun i hi hn=>(k.block i (Nat.lt_of_lt_of_le hi h.size) (fun t=>hn (hT i hi t))).trans (h.block i hi hn)⟩
theorem Fr.mono {T:Nat→Prop} (h:Fr S a b) (hT:∀ i,i<a.heap.size→S i→T i):Fr T a b:=⟨h.os,h.tape,h.output,h.size,fun i hi hn=>h.block i hi (fun s=>hn (hT i hi s))⟩
theorem Fr.of_keeps (h:Ato a b) (S:Nat→Prop):Fr S a b:=⟨h.os,h.tape,h.output,h.size,fun i hi _=>h.block i hi⟩
theorem Fr.keeps (h:Fr S a b) (hS:∀ i,i<a.heap.size→¬ S i):Ato a b:=⟨h.os,h.tape,h.output,h.size,fun i hi=>h.block i hi (hS i hi)⟩
theorem Fr.alloc (h:Fr S a b) (o:Obj):Fr S a (b.alloc o):=h.trans (Fr.of_keeps ((Ato.refl b).alloc o) S)
theorem Fr.drewN (h:Fr S a b) (n:Nat):Fr S a (b.drewN n):=⟨h.os,h.tape,h.output,h.size,h.block⟩
theorem Fr.drew (h:Fr S a b):Fr S a b.drew:=⟨h.os,h.tape,h.output,h.size,h.block⟩
theorem Fr.setCell (h:Fr S a b) {p:Addr} (hp:S p.block∨a.heap.size≤p.block) (u:Value):Fr S a (b.setCell p u) :=
 ⟨h.os,h.tape,h.output,by simpa [World.setCell] using h.size,fun i hi hn=>(Below.heap_setCell b p u i (by
  rintro rfl
  rcases hp with hp | hp
  ·exact hn hp
  ·omega)).trans (h.block i hi hn)⟩
theorem Fr.grown (h:Fr S a b) {row:Option Nat} (k:b.grownBy c row) (hS:∀ i,row=some i→i<a.heap.size→S i):Fr S a c :=
 ⟨k.os.trans h.os,k.tape.trans h.tape,k.output.trans h.output,Nat.le_trans h.size k.size,fun i hi hn=>(k.block i (Nat.lt_of_lt_of_le hi h.size) (fun e=>hn (hS i e.symm hi))).trans (h.block i hi hn)⟩
theorem Fr.cell (h:Fr S w w') {p:Addr} (hn:¬ S p.block) {v:Value} (hv:w.cell? p=some v):w'.cell? p=some v:=by
 rw [World.cell?_of_block (w:=w) (h.block p.block (World.block_lt_of_cell? w p hv) hn)]; exact hv
theorem Arr.fr {g:Nat} {t:TypeId} {cs:List Value} (h:Arr w g t cs) (k:Fr S w w') (hn:¬ S g):Arr w' g t cs:=by
 unfold Arr; rw [k.block g h.lt hn]; exact h
theorem Seg.fr {base:Nat} {e:TypeId} {size:Nat} {v:Value} {n:Nat} {xs:List Value} (h:Seg w base e size v n xs) (k:Fr S w w') (hn:∀ i,v.ownBlock=some i→¬ S i):Seg w' base e size v n xs:=by
 refine ⟨h.1,?_⟩
 rcases h.2 with hx | ⟨g,off,cap,cur,rfl,hb,hgg,rest⟩
 ·exact .inl hx
 ·refine .inr ⟨g,off,cap,cur,rfl,hb,?_,rest⟩
  rw [k.block g (Array.getElem?_eq_some_iff.1 hgg).1 (hn g rfl)]
  exact hgg
theorem Bs.fr {x:Option Addr} {l:List UInt8} (h:Bs w x l) (k:Fr S w w') (hn:0<l.length→∀ p,x=some p→¬ S p.block):Bs w' x l:=fun j hj=>by
 obtain ⟨b,off,rfl,hc⟩:=h j hj
 exact ⟨b,off,rfl,k.cell (p:=⟨b,off+j,none⟩) (hn (by omega) ⟨b,off,none⟩ rfl) hc⟩
theorem Bs.lt {x:Option Addr} {l:List UInt8} (h:Bs w x l) (hl:0<l.length) (p:Addr) (hp:x=some p):p.block<w.heap.size:=by
 obtain ⟨b,off,e,hc⟩:=h 0 hl
 rw [hp] at e; cases e
 exact World.block_lt_of_cell? w _ hc
theorem Seg.form {base:Nat} {e:TypeId} {size:Nat} {v:Value} {n:Nat} {xs:List Value} (h:Seg w base e size v n xs) :
  ∃ x cap,v = .slice x n cap∧n≤cap∧cap≤9223372036854775807∧(0<cap→∃ b off,x=some ⟨b,off,none⟩∧base≤b∧b<w.heap.size):=by
 rcases h.shape with ⟨rfl,rfl,_⟩ | ⟨g,off,cap,rfl,hb,hlt,hn,hc⟩
 ·exact ⟨none,0,rfl,by omega,by omega,fun h=>absurd h (by omega)⟩
 ·exact ⟨_,cap,rfl,hn,hc,fun _=>⟨g,off,rfl,hb,hlt⟩⟩
theorem Seg.end0 {base:Nat} {e:TypeId} {size:Nat} {g off n cap:Nat} {xs:List Value} (h:Seg w base e size (.slice (some ⟨g,off,none⟩) n cap) n xs):Seg w base e size (.slice (some ⟨g,off,none⟩) 0 0) 0 []:=by
 rcases h.2 with ⟨h,_⟩ | ⟨g',off',cap',cur,hv,hb,hgg,hnc,hcm,hfit,htake⟩
 ·cases h
 ·simp only [Value.slice.injEq,Option.some.injEq,Addr.mk.injEq,and_true] at hv
  obtain ⟨⟨rfl,rfl⟩,_,rfl⟩:=hv
  exact ⟨by simp,.inr ⟨g,off,0,cur,rfl,hb,hgg,Nat.le_refl _,by omega,by omega,by simp⟩⟩
theorem Seg.bytes {base:Nat} {e:TypeId} {x:Option Addr} {n cap:Nat} {l:List UInt8} (h:Seg w base e 1 (.slice x n cap) n (bv l)):Bs w x l:=fun j hj=>by
 rcases h.shape with ⟨hv,_,hx⟩ | ⟨g,off,cap',hv,_⟩
 ·have:(bv l).length=0:=by rw [hx]; rfl
  rw [AxK] at this; omega
 ·cases hv
  exact ⟨g,off,rfl,h.cells rfl j _ (AQ1 l j hj)⟩
theorem Seg.len {base:Nat} {e:TypeId} {v:Value} {n:Nat} {l:List UInt8} (h:Seg w base e 1 v n (bv l)):l.length=n:=by
 have:=h.1; rw [AxK] at this; omega
theorem Seg.ne_arr {base:Nat} {e t:TypeId} {size:Nat} {v:Value} {n g:Nat} {xs cs:List Value} (h:Seg w base e size v n xs) (hg:Arr w g t cs) (hne:e≠t):v.ownBlock≠some g:=by
 intro hv
 rcases h.2 with ⟨rfl,_⟩ | ⟨g',off',cap',cur,rfl,_,hgg,_⟩
 ·cases hv
 ·cases hv
  unfold Arr at hg; rw [hgg] at hg
  simp only [Option.some.injEq,Obj.cells.injEq] at hg
  exact hne hg.2.1
end
theorem Arr.there {w:World} {b:Nat} {t:TypeId} {cs:List Value} (h:Arr w b t cs) (n:Nat) (hn:n≤cs.length):w.there b 0 n:=fun j hj=>by
 rw [Nat.zero_add,h.cell,List.getElem?_eq_getElem (by omega)]; exact ⟨rfl,h.frozen j⟩
theorem Arr.setAll {w:World} {b:Nat} {t:TypeId} {cs vs:List Value} (h:Arr w b t cs) (hl:vs.length=cs.length):Arr (w.setCells b 0 vs) b t vs:=by
 obtain ⟨cs',h1,h2,h3,h4,h5⟩:=AB1 b t vs 0 cs.toArray w h (by simp; omega)
 have e:cs'=vs.toArray:=by
  apply Array.ext'
  simp only [List.size_toArray] at h2
  simp only [List.drop_zero] at h4
  rw [←h4,List.take_of_length_le (by simp; omega)]
 rw [e] at h1; exact h1
theorem Ato.setCells {a:World} {g:Nat} (hg:a.heap.size≤g):∀ (vs:List Value) (o:Nat) (w:World),Ato a w→Ato a (w.setCells g o vs)
 | [],_,_,h=>h
 | v::r,o,w,h=>Ato.setCells hg r (o+1) _ (Below.setCell h (p:=⟨g,o,none⟩) hg v)
theorem A19 {P:Program} {tx e':TypeId} (hk:P.underlying tx=some (.slice e')) (w:World) (size:Nat) (cs:Array Value) (t:TypeId) (hl:cs.size=size) (h1:∀ u∈cs.toList,u.oneCell'=true) :
  Src P size tx (.slice (some ⟨w.heap.size,0,none⟩) 1 1) 1 cs.toList (w.alloc (.cells cs t)):=by
 refine Src.ofSlice _ hk _ 1 1 cs.toList (by simp [hl]) (fun j u hu => ?_) h1
 rw [show (⟨w.heap.size,0,none⟩:Addr).add j=⟨w.heap.size,j,none⟩ from by (unfold Addr.add; split<;>simp_all)]
 rw [cell_of_row _ _ _ cs t (0,0) (heap_alloc_new w _)]
 simpa using hu
theorem ARj {P:Program} {tx e':TypeId} (hk:P.underlying tx=some (.slice e')) (w:World) (x:Value) (t:TypeId) (h1:x.oneCell'=true) :
  Src P 1 tx (.slice (some ⟨w.heap.size,0,none⟩) 1 1) 1 [x] (w.alloc (.cells #[x] t)) :=
 A19 hk w 1 #[x] t rfl (fun u hu=>by simp at hu; rw [hu]; exact h1)
theorem ATV (m:List UInt8) (y:UInt8) {z:Int} (hz:z=(y.toNat:Int)):bv m++[.int .u8 z]=bv (m++[y]):=by subst hz; simp [bv]
theorem AHW (n:Nat):((UInt8.ofNat (n % 256)).toNat:Int)=(n:Int) % 256:=by
 rw [UInt8.toNat_ofNat']; omega
theorem Awx {a b:World} (h:a.grownBy b none):Ato a b:=⟨h.os,h.tape,h.output,h.size,fun k hk=>h.block k hk (by simp)⟩
theorem A9M {W w1:World} (h:W.grownBy w1 none):(∀ b o,b<W.heap.size→w1.cell? ⟨b,o,none⟩=W.cell? ⟨b,o,none⟩)∧(∀ b o,b<W.heap.size→w1.frozen? ⟨b,o,none⟩=W.frozen? ⟨b,o,none⟩) :=
 ⟨fun b o hb=>World.cell?_of_block (h.block b hb (by simp)),fun b o hb=>World.frozen?_of_block (h.block b hb (by simp))⟩
theorem AIk {P:Program} (w:World) (base:Nat) (t tn ty e:TypeId) (z:Value) (bytes:Nat) (kq kn:IntKind) (ht:P.underlying t=some (.slice e)) (htn:P.underlying tn=some (.int kn))
  (hinfo:(P.info? e).map (fun i=>(i.zero,i.size,i.bytes))=some (some z,1,bytes)) (hzs:z.cells = #[z])
  (g off n:Nat) (xs:List Value) (hown:Seg w base e 1 (.slice (some ⟨g,off,none⟩) n n) n xs) (k:Nat) (h63:n+k≤maxLen) (hbytes:(n+k)*bytes≤140737488355328) :
  ∃ v' w',(Builtin.append_ #[t,tn] ty #[.slice (some ⟨g,off,none⟩) n n,.int kq k]).run P w = .ok v' w'∧Seg w' base e 1 v' (n+k) (xs++List.replicate k z)∧w.grownBy w' none:=by
 obtain ⟨i,hi,hzz⟩:=Option.map_eq_some_iff.1 hinfo
 simp only [Prod.mk.injEq] at hzz
 obtain ⟨hz,hs1,rfl⟩:=hzz
 have hsmall:((n+k:Nat):Int)≤9223372036854775807:=by simp only [maxLen] at h63; omega
 by_cases hk:k=0
 ·subst hk
  refine ⟨.slice (some ⟨g,off,none⟩) n n,w,?_,by simpa using hown,⟨rfl,rfl,rfl,Nat.le_refl _,fun _ _ _=>rfl⟩⟩
  have hw:IntKind.i64.wrap (0:Int)=0:=by rw [IntKind.wrap_i64]; omega
  simp [Builtin.append_,run_underlying ht,run_underlying htn,sizeOf,typeInfo,hi,asInt,asIntOf,hw,storeCells]
 ·have holds:∀ j u,xs[j]?=some u→w.drew.cell? ((⟨g,off,none⟩:Addr).add j)=some u:=fun j u hu=>by
   rw [show (⟨g,off,none⟩:Addr).add j=⟨g,off+j,none⟩ from by simp [Addr.add]]; exact hown.cells rfl j u hu
  have hxl:=hown.1
  have hold:=run_firstCells_some (P:=P) w.drew i.size n ⟨g,off,none⟩ n n xs (by rw [hs1]; exact hxl) holds
  have hkb:k*i.bytes≤(n+k)*i.bytes:=Nat.mul_le_mul_right _ (by omega)
  have hr:=Lib.run_append_grow_zeros (P:=P) w t tn ty e i z kq kn ht htn hi hz (some ⟨g,off,none⟩) n n xs hold k (by omega) (by omega) (by omega) hsmall (by omega) (growslice_fits (by omega) hbytes)
  refine ⟨_,_,hr,?_,⟨rfl,rfl,rfl,by simp,fun j hj _=>Below.heap_alloc w.drew _ j hj⟩⟩
  have hge:=grownCap_ge w (n+k) n e
  have hcm:=grownCap_le_maxLen w (n+k) n e h63
  have hbase:base≤w.drew.heap.size:=by
   rcases hown.2 with ⟨h,_⟩ | ⟨g',off',cap',cur,hv,hb,hgg,_⟩
   ·cases h
   ·exact Nat.le_trans hb (Nat.le_of_lt (Array.getElem?_eq_some_iff.1 hgg).1)
  have h1:=Seg.made (base:=base) (e:=e) (size:=1) w.drew (xs.toArray++Builtin.zeroCells z.cells k++Builtin.zeroCells z.cells (grownCap w (n+k) n e - (n+k))) (n+k) _ hbase hge hcm (by simp [size_zeroCells,hzs]; omega)
  have h2:(xs.toArray++Builtin.zeroCells z.cells k++Builtin.zeroCells z.cells (grownCap w (n+k) n e - (n+k))).toList.take ((n+k)*1)=xs++List.replicate k z:=by
   have hzl:(Builtin.zeroCells z.cells k).toList=List.replicate k z:=by
    apply List.ext_getElem?
    intro j
    rcases Nat.lt_or_ge j k with h | h<;>simp [Builtin.zeroCells,hzs,Nat.mod_one,h]<;>omega
   rw [Array.toList_append,Array.toList_append,hzl,Nat.mul_one]
   have hl:(xs++List.replicate k z).length=n+k:=by simp; omega
   simp only []
   rw [←hl]; exact List.take_left
  rw [h2] at h1
  exact h1
section
variable {P:Program} (w:World)
theorem AO2 {ops:Array Oper} {o:Oper} {a:Act} {K:Act→World→Prop} {Q:Exit→Act→World→Prop} {E:Prop} (hgd:o.guard=none) (s x:Operand) (t tx:TypeId)
  (ho:o.op = .call { callee := .builtin .append,args := #[s,x],argTypes := #[t,tx] })
  (base:Nat) (e:TypeId) (z:Value) (size bytes:Nat) (ht:P.underlying t=some (.slice e))
  (hinfo:(P.info? e).map (fun i=>(i.zero,i.size,i.bytes))=some (some z,size,bytes)) (hzs:z.cells.size=size)
  (v:Value) (n:Nat) (xs:List Value) (hs:a.eval s=v) (hown:Seg w base e size v n xs)
  (vx:Value) (m:Nat) (news:List Value) (hx:a.eval x=vx) (hsrc:Src P size tx vx m news w)
  (h63:n+m≤maxLen) (hbytes:(n+m)*bytes≤140737488355328) (hbase:base≤w.heap.size)
  (h:∀ v' w',Seg w' base e size v' (n+m) (xs++news)→w.grownBy w' v.ownBlock→(v'.ownBlock=v.ownBlock∨v'.ownBlock=some w.heap.size)→K (a.put o.dst v') w') :
  if Region.wanted o (yielded ops a.tmps)=true then Oper.wp P o a w K Q else E:=by
 have hw:Region.wanted o (yielded ops a.tmps)=true:=by simp [Region.wanted,hgd]
 rw [if_pos hw]
 obtain ⟨v',w',hr,h2,h3,h4⟩:=AIs (P:=P) w base t tx o.type e z size bytes ht hinfo hzs v n xs hown vx m news hsrc h63 hbytes hbase
 unfold Oper.wp execOp
 simp only [ho,resolve,invoke,builtin,Sem.run_bind,Sem.run_pure,Result.andThen_ok,List.map_toArray,List.map_cons,List.map_nil,hs,hx,hr]
 exact h v' w' h2 h3 h4
end
end Go.Proofs.YtnkpoloeifhflaaDoor.Kit
namespace Go.Proofs.YtnkpoloeifhflaaDoor.Kit
open Go.RowKit
theorem AQB {a b:Bool} (h:a=b):Ending.returned (.bool a) = .returned (.bool b):=by rw [h]
theorem AWi {l m:List UInt8} {k:Nat} (h:l.getD k 0≠m.getD k 0):(l == m)=false:=by
 rw [beq_eq_false_iff_ne]; intro e; exact h (by rw [e])
set_option maxRecDepth 100000 in
set_option maxHeartbeats 400000 in
theorem same (a b:Option Addr) (ca cb:Nat) (l m:List UInt8) (w:World) (hl:l.length≤9223372036854775807) (hm:m.length≤9223372036854775807) (ha:Bs w a l) (hb:Bs w b m) :
  Calls Tryd.prog 7 #[.slice a l.length ca,.slice b m.length cb] w fun e w'=>e = .returned (.bool (l == m))∧∃ n,w'=w.drewN n:=by
 by_cases hlm:l.length=m.length
 ·have hne:((l.length:Int) != (m.length:Int))=false:=by simp [hlm]
  have HLM:=Lib.hid hlm; clear hlm
  go_enter Tryd.func7,Tryd.ntmps7
  go_wp2
  go_loopw [4,5] (fun r i wr=>∃ k n:Nat,k≤l.length∧i = .int .i64 k∧wr=w.drewN n∧r = .bool false∧Hid (l.take k=m.take k)) (fun _ i _=>l.length - (intOf i).toNat)
  case atStart=>exact ⟨0,0,by omega,rfl,rfl,rfl,rfl⟩
  case round =>
   obtain ⟨k,n,hk,rfl,rfl,rfl,hr⟩:=hrel
   by_cases hlt:k<l.length
   ·obtain ⟨b1,o1,x,rfl,hc1,hx,HX⟩:=ha.at hlt
    obtain ⟨b2,o2,y,rfl,hc2,hy,HY⟩:=hb.at (j:=k) (by rw [←HLM.out]; exact hlt)
    have hlt2:k<m.length:=by rw [←HLM.out]; exact hlt
    by_cases hxy:x=y
    ·subst hxy
     go_wp2
     go_quiet (fail)
     go_wp2
     go_roundw
     case rel =>
      refine ⟨k+1,_,by omega,by go_num,rfl,rfl,?_⟩
      have h1:=hr.out
      have e1:l[k]=x:=by rw [HX.out]; simp [List.getD,hlt]
      have e2:m[k]=x:=by rw [HY.out]; simp [List.getD,hlt2]
      show l.take (k+1)=m.take (k+1)
      rw [List.take_succ_eq_append_getElem hlt,List.take_succ_eq_append_getElem hlt2,h1,e1,e2]
     case measure=>simp [intOf]; omega
    ·have hn:((x.toNat:Int) != (y.toNat:Int))=true:=by
      rw [bne_iff_ne]; intro e; exact hxy (UInt8.toNat_inj.1 (by omega))
     have HN:=Lib.hid hxy; clear hxy
     go_wp2
     go_quiet (fail)
     go_wp2
     go_ret
     exact ⟨AQB (AWi (k:=k) (by rw [←HX.out,←HY.out]; exact HN.out)).symm,_,World.drewN_drewN ..⟩
   ·go_wp2
    go_ret
    refine ⟨AQB ?_,_,rfl⟩
    have h1:=hr.out
    rw [List.take_of_length_le (by omega),List.take_of_length_le (by rw [←HLM.out]; omega)] at h1
    simp [h1]
 ·have hne:((l.length:Int) != (m.length:Int))=true:=by rw [bne_iff_ne]; omega
  have HLM:=Lib.hid hlm; clear hlm
  go_enter Tryd.func7,Tryd.ntmps7
  go_wp2
  go_ret
  refine ⟨AQB ?_,0,rfl⟩
  symm; rw [beq_eq_false_iff_ne]; intro e; exact HLM.out (by rw [e])
theorem Tryd.infoU8:(Tryd.prog.info? 5).map (fun i=>(i.zero,i.size,i.bytes))=some (some (.int .u8 0),1,1):=by kernel_rfl
theorem Tryd.sizeU8:(Tryd.prog.info? 5).map (·.size)=some 1:=by kernel_rfl
set_option maxRecDepth 100000 in
set_option maxHeartbeats 400000 in
theorem A8b (a:Option Addr) (ca:Nat) (l:List UInt8) (w:World) (hl:l.length≤1000000) (ha:Bs w a l) :
  Calls Tryd.prog 19 #[.slice a l.length ca] w fun e w'=>e = .returned (.slice (some ⟨w.heap.size,0,none⟩) l.length (l.length+2)) ∧
   w'.heap[w.heap.size]?=some (.cells (bv (l++[71,72])).toArray 5 (0,0))∧Ato w w':=by
 have hmk:=run_make_row' (P:=Tryd.prog) 23 5 (.int .u8 0) 1 Tryd.underlying23 Tryd.infoU8 rfl .i64 .i64 (l.length+2) (by omega) (by omega)
 rw [show ((l.length+2:Nat):Int)=(l.length:Int)+2 from by omega] at hmk
 have hsz:=Tryd.sizeU8
 go_enter Tryd.func19,Tryd.ntmps19
 go_wp2_with (with_reducible refine wpList_copy_splice rfl (.tmp 10) (.tmp 11) 23 23 rfl 5 Tryd.underlying23 hsz _ _ _ _ _ _ rfl rfl w.heap.size 0 (madeCells #[.int .u8 0] (l.length+2)).toList 5 ?c1 (bv l) ?c2 ?c3 ?c4 ?c5 w.heap.size w ?c6 (Nat.le_refl _) ?_)
 case c1=>rw [heap_alloc_new]
 case c2=>rw [AxK]; show _=min _ _; omega
 case c3=>exact fun h=>(ha.keep ((Ato.refl w).alloc _)).src (by simpa using h)
 case c4=>simp [size_madeCells]
 case c5=>exact AKb l
 case c6=>exact (Ato.refl w).alloc _
 intro w1 H1 K1
 have hsp:splice (madeCells #[Value.int .u8 0] (l.length+2)).toList 0 (bv l)=bv l++[Value.int .u8 0,Value.int .u8 0]:=by
  rw [toList_madeCells_one,splice]; simp only [List.take_zero,List.nil_append,Nat.zero_add,AxK,List.drop_replicate]; rw [show l.length+2 - l.length=2 from by omega]; rfl
 have H2:w1.heap[w.heap.size]?=some (.cells (bv l++[Value.int .u8 0,Value.int .u8 0]).toArray 5 (0,0)):=by rw [←hsp]; exact H1.out
 have c1:w1.cell? ⟨w.heap.size,l.length,none⟩=some (.int .u8 0):=by rw [cell_of_row _ _ _ _ _ _ H2]; simp
 have c2:w1.cell? ⟨w.heap.size,l.length+1,none⟩=some (.int .u8 0):=by rw [cell_of_row _ _ _ _ _ _ H2]; simp
 have f1:w1.frozen? ⟨w.heap.size,l.length,none⟩=false:=frozen_of_row _ _ _ _ _ H2
 have f2:w1.frozen? ⟨w.heap.size,l.length+1,none⟩=false:=frozen_of_row _ _ _ _ _ H2
 have HB:=Lib.hid H2
 clear H1 H2 hsp hmk
 go_wp2
 go_ret
 refine ⟨rfl,?_,?_⟩
 ·rw [heap_setCell_same _ _ _ _ _ _ (heap_setCell_same _ _ _ _ _ _ HB.out)]
  simp [bv]
 ·exact (K1.setCell (Nat.le_refl _) _).setCell (Nat.le_refl _) _
theorem A91 (m:List UInt8) (i:Nat) (y:UInt8):(bv m).toArray.setIfInBounds i (.int .u8 (y.toNat:Int))=(bv (m.set i y)).toArray:=by
 simp [bv,List.map_set]
set_option maxRecDepth 100000 in
set_option maxHeartbeats 1000000 in
theorem ASt (g:Nat) (b:Option Addr) (cb:Nat) (l:List UInt8) (w:World) (hl:l.length≤1000000) (hg:w.heap[g]?=some (.cells (bv (l++[71,72])).toArray 5 (0,0))) (hb:Bs w b l) :
  Calls Tryd.prog 21 #[.slice (some ⟨g,0,none⟩) l.length (l.length+2),.slice b l.length cb] w fun e w'=>e = .returned (.bool true)∧w.grownBy w' (some g):=by
 have hr:Bs w (some ⟨g,0,none⟩) l:=Bs.of_block hg (fun j hj=>by rw [Nat.zero_add,AQ1 _ _ (by simp; omega)]; simp [List.getD,hj,List.getElem?_append_left hj])
 have c1:w.cell? ⟨g,l.length,none⟩=some (.int .u8 71):=by rw [cell_of_row _ _ _ _ _ _ hg]; simp [bv]
 have c2:w.cell? ⟨g,l.length+1,none⟩=some (.int .u8 72):=by rw [cell_of_row _ _ _ _ _ _ hg]; simp [bv]
 have HG:=Lib.hid hg; clear hg
 go_enter Tryd.func21,Tryd.ntmps21
 go_wp2_with fail
 (with_reducible refine (same _ _ _ _ _ _ _ (by omega) (by omega) hr hb).mono ?_)
 rintro e w' ⟨rfl,n,rfl⟩
 have hll:(l == l)=true:=by simp
 go_wp2
 go_loopw [8] (fun i wr=>∃ (k:Nat) (m:List UInt8),k≤l.length+2∧i = .int .i64 k∧m.length=l.length+2∧wr.heap[g]?=some (.cells (bv m).toArray 5 (0,0))∧w.grownBy wr (some g)) (fun i _=>l.length+2 - (intOf i).toNat)
 case atStart=>exact ⟨0,l++[71,72],by omega,rfl,by simp,HG.out,⟨rfl,rfl,rfl,Nat.le_refl _,fun _ _ _=>rfl⟩⟩
 case round =>
  obtain ⟨k,m,hk,rfl,hm,hgr,hgrown⟩:=hrel
  by_cases hlt:k<l.length+2
  ·have hcell:wr.cell? ⟨g,k,none⟩=some (.int .u8 ((m.getD k 0).toNat:Int)):=by rw [cell_of_row _ _ _ _ _ _ hgr]; simpa using AQ1 m k (by omega)
   have hfz:wr.frozen? ⟨g,k,none⟩=false:=frozen_of_row _ _ _ _ _ hgr
   obtain ⟨x,hx⟩:∃ x,x=m.getD k 0:=⟨_,rfl⟩
   rw [←hx] at hcell
   have HGR:=Lib.hid hgr; clear hgr hx
   have HM:=Lib.hid hm; clear hm
   have hbx:=AUe x
   go_wp2
   go_roundw
   case rel =>
    refine ⟨k+1,m.set k (x ^^^ 85),by omega,by go_num,by rw [List.length_set]; exact HM.out,?_,?_⟩
    ·rw [heap_setCell_same _ _ _ _ _ _ HGR.out,←A91]
     rw [show (85:Int)=((85:Nat):Int) from rfl,u8_xor_nat _ _ (by omega) (by omega),UInt8.toNat_xor]; rfl
    ·exact ⟨hgrown.os,hgrown.tape,hgrown.output,by simpa [World.setCell] using hgrown.size,fun j hj hne=>by rw [heap_setCell_other _ _ _ _ (by simpa using fun e=>hne (by rw [e]))]; exact hgrown.block j hj hne⟩
   case measure=>simp [intOf]; omega
  ·have HGR:=Lib.hid hgr; clear hgr
   have HM:=Lib.hid hm; clear hm
   go_wp2
   go_ret
   exact ⟨rfl,hgrown⟩
end Go.Proofs.YtnkpoloeifhflaaDoor.Kit
namespace Go.Proofs.YtnkpoloeifhflaaDoor.Kit
open Go.RowKit
structure Dig (w:World) (base g:Nat) (vr:Value) (all:List UInt8):Prop where
 arr:Arr w g 95 (AxU (Auj H0 all).1.list++[vr,.int .u64 ((all.length % 18446744073709551616:Nat):Int)])
 seg:Seg w base 5 1 vr (Auj H0 all).2.length (bv (Auj H0 all).2)
theorem Dig.fr {w w':World} {base g:Nat} {vr:Value} {all:List UInt8} {S:Nat→Prop} (h:Dig w base g vr all) (k:Fr S w w') (h1:¬ S g) (h2:∀ i,vr.ownBlock=some i→¬ S i):Dig w' base g vr all :=
 ⟨h.arr.fr k h1,h.seg.fr k h2⟩
structure AXN (all:List UInt8) (h:V5) (l:List UInt8):Prop where
 eq:Auj h l=Auj H0 all
 ok:h.ok
set_option maxRecDepth 100000 in
set_option maxHeartbeats 4000000 in
theorem Bac (w:World):Calls Tryd.prog 29 #[] w fun e w'=>e = .returned (.pointer (some ⟨w.heap.size,0,none⟩))∧Dig w' 0 w.heap.size (.slice none 0 0) []∧Ato w w':=by
 go_enter Tryd.func29,Tryd.ntmps29
 go_wp2
 go_ret
 refine ⟨rfl,⟨?_,Seg.nil _ _ _ _⟩,(Ato.refl w).alloc _⟩
 exact Arr.new _ _ _
set_option maxRecDepth 100000 in
set_option maxHeartbeats 4000000 in
theorem A41 (g base:Nat) (vr:Value) (all:List UInt8) (a:Option Addr) (cap:Nat) (b:List UInt8) (w:World) (hD:Dig w base g vr all) (hb:Bs w a b) (hag:0<b.length→∀ p,a=some p→p.block≠g) (hbl:b.length≤1000000000) (hbase:base≤w.heap.size) :
  Calls Tryd.prog 30 #[.pointer (some ⟨g,0,none⟩),.slice a b.length cap] w fun e w' =>
   e = .returned (.tuple #[])∧∃ vr',Dig w' base g vr' (all++b)∧Fr (fun i=>i=g∨vr.ownBlock=some i) w w'∧(vr'.ownBlock=vr.ownBlock∨∃ i,w.heap.size≤i∧vr'.ownBlock=some i):=by
 obtain ⟨hA,hS⟩:=hD
 have hrl:=AIC H0 all
 have hok:=AOZ H0 all A2o
 have hba:=AQL H0 all b
 generalize Auj H0 all=B0 at *
 obtain ⟨h0,rest⟩:=B0
 simp only at hA hS hrl hok hba
 have hBA:AXN (all++b) h0 (rest++b):=⟨hba.symm,hok⟩
 clear hba hok
 have hne:vr.ownBlock≠some g:=hS.ne_arr hA (by decide)
 have c6:w.cell? ⟨g,6,none⟩=some (.int .u64 ((all.length % 18446744073709551616:Nat):Int)):=hA.cell 6
 have f6:=hA.frozen 6
 obtain ⟨sz,hsz⟩:∃ sz:Nat,sz=all.length % 18446744073709551616:=⟨_,rfl⟩
 rw [←hsz] at c6 hA
 have hszl:sz<18446744073709551616:=by omega
 have HSZ:=Lib.hid hsz; clear hsz
 go_enter Tryd.func30,Tryd.ntmps30
 have hgl:g<w.heap.size:=hA.lt
 go_upto_region 0 with (fail)
 go_cut [] (fun w1=>Arr w1 g 95 (AxU h0.list++[vr,.int .u64 (((sz+b.length) % 18446744073709551616:Nat):Int)])∧Fr (fun i=>i=g) w w1)
 case first =>
  go_wp2
  go_meet
  case rel =>
   refine ⟨?_,(Fr.refl (fun i=>i=g) w).setCell (p:=⟨g,6,none⟩) (.inl rfl) _⟩
   have h1:=hA.set 6 (.int .u64 (((sz+b.length) % 18446744073709551616:Nat):Int))
   rw [show IntKind.u64.wrap ((sz:Int)+(b.length:Int))=(((sz+b.length) % 18446744073709551616:Nat):Int) from by rw [IntKind.wrap_u64]; omega]
   exact h1
 case rest =>
  obtain ⟨hA1,hF1⟩:=hcut
  have hS1:Seg wc base 5 1 vr rest.length (bv rest):=hS.fr hF1 (fun i hi e=>hne (by rw [hi,e]))
  have hb1:Bs wc a b:=hb.fr hF1 (fun hl p hp e=>hag hl p hp e)
  have hsrc:Src Tryd.prog 1 23 (.slice a b.length cap) b.length (bv b) wc:=hb1.srcOf Tryd.underlying23 cap (fun _=>rfl)
  have c5:wc.cell? ⟨g,5,none⟩=some vr:=hA1.cell 5
  obtain ⟨szb,hszb⟩:∃ z:Nat,z=(sz+b.length) % 18446744073709551616:=⟨_,rfl⟩
  rw [←hszb] at hA1
  have HSB:=Lib.hid hszb; clear hszb
  clear c6 f6
  obtain ⟨wa,rfl⟩:∃ wa:World,wa=wc:=⟨_,rfl⟩
  have hsza:w.heap.size≤wa.heap.size:=hF1.size
  go_upto_region 1 with (fail)
  go_cut [] (fun w2=>∃ vr1,Arr w2 g 95 (AxU h0.list++[vr1,.int .u64 (szb:Int)])∧Seg w2 base 5 1 vr1 (rest++b).length (bv (rest++b))∧Fr (fun i=>i=g∨vr.ownBlock=some i) w w2∧(vr1.ownBlock=vr.ownBlock∨∃ i,w.heap.size≤i∧vr1.ownBlock=some i))
  case first =>
   go_wp2_with (at_builtin; go_must (refine AvX _ rfl (.tmp 18) (.tmp 19) 23 23 rfl base 5 (.int .u8 0) 1 1 Tryd.underlying23 Tryd.infoU8 rfl vr _ _ rfl hS1 _ _ _ rfl hsrc ?c1 ?c2 ?c3 ?_))
   case c1=>unfold maxLen; omega
   case c2=>omega
   case c3=>omega
   intro v' w2 hS2 hg2 ho2
   have hA2:Arr w2 g 95 (AxU h0.list++[vr,.int .u64 (szb:Int)]):=hA1.grown hg2 (fun e=>hne e.symm)
   have hne2:=hS2.ne_arr hA2 (by decide)
   have c5':w2.cell? ⟨g,5,none⟩=some vr:=hA2.cell 5
   have f5':=hA2.frozen 5
   obtain ⟨x1,cap1,rfl,hnc1,hcm1,hx1⟩:=hS2.form
   go_wp2
   go_meet
   case rel =>
    go_light
    refine ⟨_,hA2.set 5 (.slice x1 (rest.length+b.length) cap1),?_,?_,?_⟩
    ·have h3:=hS2.fr (S:=fun i=>i=g) ((Fr.refl (fun i=>i=g) w2).setCell (p:=⟨g,5,none⟩) (.inl rfl) (.slice x1 (rest.length+b.length) cap1)) (fun i hi e=>hne2 (by rw [hi,e]))
     rw [show bv (rest++b)=bv rest++bv b from by simp [bv],List.length_append]
     exact h3
    ·refine Fr.setCell (Fr.grown (hF1.mono (fun i _ e => .inl e)) hg2 (fun i hi _ => .inr hi)) (p:=⟨g,5,none⟩) (.inl (.inl rfl)) _
    ·rcases ho2 with h | h
     ·exact .inl h
     ·exact .inr ⟨_,hsza,h⟩
  case rest =>
   clear c5 hsrc hb1 hS1 hA1
   obtain ⟨vr1,hA2,hS2,hF2,ho2⟩:=hcut
   obtain ⟨wd,rfl⟩:∃ wd:World,wd=wc:=⟨_,rfl⟩
   go_wp2
   go_loopg [] ((rest++b).length) (fun n wr=>∃ h l v,l.length≤n∧Arr wr g 95 (AxU h.list++[v,.int .u64 (szb:Int)])∧Seg wr base 5 1 v l.length (bv l)∧AXN (all++b) h l∧Fr (fun i=>i=g∨vr.ownBlock=some i) w wr∧v.ownBlock=vr1.ownBlock)
   case atStart=>exact ⟨h0,rest++b,vr1,Nat.le_refl _,hA2,hS2,hBA,hF2,rfl⟩
   case round =>
    clear hA2 hS2 hBA hF2
    obtain ⟨h,l,v,hln,hA2,hS2,hB,hF2,ho⟩:=hrel
    obtain ⟨x,capx,rfl,hnc,hcm,hx⟩:=hS2.form
    have c5:wr.cell? ⟨g,5,none⟩=some (.slice x l.length capx):=hA2.cell 5
    have f5:=hA2.frozen 5
    have hne2:=hS2.ne_arr hA2 (by decide)
    by_cases hlong:64≤l.length
    ·obtain ⟨bb,off,rfl,hbb,hbw⟩:=hx (by omega)
     have hbt:Bs wr (some ⟨bb,off,none⟩) (l.take 64):=hS2.bytes.take 64
     go_wp2_with fail
     (with_reducible refine (block _ _ _ _ _ _ _ _ hB.ok hbt (by simp; omega) hA2).mono ?_)
     rintro e w3 ⟨rfl,hA3,hg3⟩
     have hS3:Seg w3 base 5 1 (.slice (some ⟨bb,off,none⟩) l.length capx) l.length (bv l):=hS2.kept hg3 (.inr hne2)
     have hszr:wr.heap.size≤w3.heap.size:=hg3.size
     have c5':w3.cell? ⟨g,5,none⟩=some (.slice (some ⟨bb,off,none⟩) l.length capx):=hA3.cell 5
     have f5':=hA3.frozen 5
     have hB2:AXN (all++b) (blk h (l.take 64)) (l.drop 64):=⟨by rw [←hB.eq,AAs _ _ hlong],AUh _ _⟩
     have hdl:(l.drop 64).length=l.length - 64:=by simp
     have HDL:=Lib.hid hdl; clear hdl
     generalize blk h (l.take 64)=h' at *
     clear c5 f5
     by_cases hcc:capx=64
     ·have hl64:l.length=64:=by omega
      have HL:=Lib.hid hl64; clear hl64
      go_wp2
      go_roundg 0
      case measure=>have:=HL.out; omega
      case rel =>
       go_light
       have hnil:l.drop 64=[]:=List.eq_nil_of_length_eq_zero (by rw [HDL.out,HL.out])
       have e0:l.length - 64=0:=by have:=HL.out; omega
       rw [e0]
       refine ⟨h',l.drop 64,.slice (some ⟨bb,off,none⟩) 0 0,by rw [hnil]; exact Nat.le_refl _,hA3.set 5 _,?_,hB2,?_,ho⟩
       ·rw [hnil]
        exact hS3.end0.fr ((Fr.refl (fun i=>i=g) w3).setCell (p:=⟨g,5,none⟩) (.inl rfl) _) (fun i hi e=>hne2 (by rw [←e]; exact hi))
       ·exact Fr.setCell (hF2.grown hg3 (fun i hi _=>by cases hi; exact .inl rfl)) (p:=⟨g,5,none⟩) (.inl (.inl rfl)) _
     ·have hcc2:64<capx:=by omega
      clear hcc
      go_wp2
      go_roundg (l.length - 64)
      case measure=>omega
      case rel =>
       go_light
       refine ⟨h',l.drop 64,.slice (some ⟨bb,off+64,none⟩) (l.length - 64) (capx - 64),by rw [HDL.out]; omega,hA3.set 5 _,?_,hB2,?_,ho⟩
       ·rw [HDL.out,show bv (l.drop 64)=(bv l).drop (64*1) from by simp [bv]]
        exact (hS3.drop rfl 64 hlong).fr ((Fr.refl (fun i=>i=g) w3).setCell (p:=⟨g,5,none⟩) (.inl rfl) _) (fun i hi e=>hne2 (by rw [←e]; exact hi))
       ·exact Fr.setCell (hF2.grown hg3 (fun i hi _=>by cases hi; exact .inl rfl)) (p:=⟨g,5,none⟩) (.inl (.inl rfl)) _
    ·go_wp2
     go_end0
     have he:=hB.eq
     rw [Aw0 _ _ (by omega)] at he
     refine ⟨rfl,.slice x l.length capx,⟨?_,?_⟩,hF2,?_⟩
     ·rw [←he]
      have e:(all++b).length % 18446744073709551616=szb:=by rw [HSB.out,HSZ.out,List.length_append]; omega
      rw [e]; exact hA2
     ·rw [←he]; exact hS2
     ·rw [ho]; exact ho2
end Go.Proofs.YtnkpoloeifhflaaDoor.Kit
namespace Go.Proofs.YtnkpoloeifhflaaDoor.Kit
open Go.RowKit
set_option maxRecDepth 100000 in
set_option maxHeartbeats 4000000 in
theorem Bay (g base:Nat) (vr:Value) (all:List UInt8) (w:World) (hD:Dig w base g vr all) (hlen:all.length≤100000000000) :
  Calls Tryd.prog 31 #[.pointer (some ⟨g,0,none⟩)] w fun e w'=>e = .returned (.agg (bv (sha all)).toArray)∧Ato w w':=by
 obtain ⟨hA,hS⟩:=hD
 obtain ⟨x0,cap0,rfl,hn0,hc0,hx0⟩:=hS.form
 have hrl:=AIC H0 all
 obtain ⟨sz,hsz⟩:∃ sz:Nat,sz=all.length % 18446744073709551616:=⟨_,rfl⟩
 have hszl:sz<18446744073709551616:=by omega
 rw [←hsz] at hA
 obtain ⟨hh,hhE⟩:∃ hh,hh=(Auj H0 all).1:=⟨_,rfl⟩
 obtain ⟨rr,hrE⟩:∃ rr,rr=(Auj H0 all).2:=⟨_,rfl⟩
 rw [←hhE] at hA
 rw [←hrE] at hS hrl hn0 hA
 have HE:=Lib.hid (And.intro hsz (And.intro hhE hrE))
 clear hsz hhE hrE
 have hgl:g<w.heap.size:=hA.lt
 have c0:w.cell? ⟨g,0,none⟩=some (.int .u32 hh.a):=hA.cell 0
 have c1:w.cell? ⟨g,1,none⟩=some (.int .u32 hh.b):=hA.cell 1
 have c2:w.cell? ⟨g,2,none⟩=some (.int .u32 hh.c):=hA.cell 2
 have c3:w.cell? ⟨g,3,none⟩=some (.int .u32 hh.d):=hA.cell 3
 have c4:w.cell? ⟨g,4,none⟩=some (.int .u32 hh.e):=hA.cell 4
 have c5:w.cell? ⟨g,5,none⟩=some (.slice x0 rr.length cap0):=hA.cell 5
 have c6:w.cell? ⟨g,6,none⟩=some (.int .u64 (sz:Int)):=hA.cell 6
 go_enter Tryd.func31,Tryd.ntmps31
 go_upto_region 1 with (fail)
 go_cut [3] (fun c wc=>∃ gc vr2,c = .pointer (some ⟨gc,0,none⟩)∧w.heap.size≤gc∧(∀ i,vr2.ownBlock=some i→w.heap.size≤i)∧Dig wc w.heap.size gc vr2 all∧Ato w wc∧Arr wc w.heap.size 30 (z8 20))
 case first =>
  have mk:∀ (W:World) (gc:Nat) (v:Value),Arr W gc 95 (AxU hh.list++[v,.int .u64 (sz:Int)])→Seg W w.heap.size 5 1 v rr.length (bv rr)→Dig W w.heap.size gc v all:=by
   intro W gc v h1 h2
   obtain ⟨e1,e2,e3⟩:=HE.out
   exact ⟨by rw [←e2,←e1]; exact h1,by rw [←e3]; exact h2⟩
  have hgl2:g<w.heap.size+1:=by omega
  have hgn1:¬ g=w.heap.size+1:=by omega
  have hgn2:¬ w.heap.size+1=g:=by omega
  have hgl3:g<w.heap.size+1+1:=by omega
  go_region_held3 (fun w'=>w'.cell? ⟨g,0,none⟩=some (.int .u32 hh.a)∧w'.cell? ⟨g,1,none⟩=some (.int .u32 hh.b)∧w'.cell? ⟨g,2,none⟩=some (.int .u32 hh.c)∧w'.cell? ⟨g,3,none⟩=some (.int .u32 hh.d)∧w'.cell? ⟨g,4,none⟩=some (.int .u32 hh.e)∧w'.cell? ⟨g,5,none⟩=some (.slice x0 rr.length cap0)∧w'.cell? ⟨g,6,none⟩=some (.int .u64 (sz:Int)))
   (first
    | go_keep)
   ((refine AO2 _ (by rfl) (.const (.slice none 0 0)) (.tmp 16) 23 23 (by rfl) w.heap.size 5 (.int .u8 0) 1 1 Tryd.underlying23 Tryd.infoU8 rfl (.slice none 0 0) 0 [] (by rfl) (Seg.nil _ _ _ _) (.slice x0 rr.length cap0) rr.length (bv rr) (by rfl) (by exact Bs.srcOf (Bs.keep hS.bytes (by first | exact Ato.drew ((Ato.refl w).alloc _) | exact Ato.drew (((Ato.refl w).alloc _).alloc _))) Tryd.underlying23 cap0 (fun _=>rfl)) (by unfold maxLen; omega) (by omega) (by simp<;>omega) ?_; intro v1 w1 hS1 hg1 ho1; obtain ⟨hcw,hfw⟩:=A9M hg1; obtain ⟨x1,cap1,rfl,hn1,hc1,hx1⟩:=hS1.form; have h9:=hg1.size; simp at h9; have hgl1:g<w1.heap.size:=by omega))
  ·go_wp2
   go_meet
   case rel =>
    go_light
    have hk1:Ato w w1:=Ato.trans (Ato.drew ((Ato.refl w).alloc _)) (Awx hg1)
    simp only [Nat.zero_add,List.nil_append] at hS1
    refine ⟨_,.slice x1 rr.length cap1,rfl,Below.size hk1,fun i hi=>(hS1.lt i hi).1,mk _ _ _ (Arr.new _ _ _) (hS1.alloc _),hk1.alloc _,Arr.alloc (Arr.keep (Arr.drew (Arr.new w _ _)) (Awx hg1)) _⟩
  ·go_wp2
   go_meet
   case rel =>
    go_light
    have hk0:Ato w _:=Ato.drew (((Ato.refl w).alloc (.cells #[.int .u8 0,.int .u8 0,.int .u8 0,.int .u8 0,.int .u8 0,.int .u8 0,.int .u8 0,.int .u8 0,.int .u8 0,.int .u8 0,.int .u8 0,.int .u8 0,.int .u8 0,.int .u8 0,.int .u8 0,.int .u8 0,.int .u8 0,.int .u8 0,.int .u8 0,.int .u8 0] 30)).alloc (.cells #[.int .u32 0,.int .u32 0,.int .u32 0,.int .u32 0,.int .u32 0,.slice none 0 0,.int .u64 0] 95))
    have hk1:Ato w w1:=Ato.trans hk0 (Awx hg1)
    simp only [Nat.zero_add,List.nil_append] at hS1
    have hA0:Arr w1 (w.heap.size+1) 95 [.int .u32 0,.int .u32 0,.int .u32 0,.int .u32 0,.int .u32 0,.slice none 0 0,.int .u64 0]:=Arr.keep (Arr.drewN (Arr.newAt _ _ _ _ (by simp)) 1) (Awx hg1)
    have hne1:=hS1.ne_arr hA0 (by decide)
    have hI0:Arr w1 w.heap.size 30 (z8 20):=Arr.keep (Arr.drew (Arr.alloc (Arr.new w _ _) _)) (Awx hg1)
    have hin:w.heap.size≠w.heap.size+1:=by omega
    refine ⟨w.heap.size+1,.slice x1 rr.length cap1,rfl,by omega,fun i hi=>(hS1.lt i hi).1,mk _ _ _ (((((((hA0.set 0 _).set 1 _).set 2 _).set 3 _).set 4 _).set 5 _).set 6 _) (hS1.fr (S:=fun i=>i=w.heap.size+1) (Fr.setCell (Fr.setCell (Fr.setCell (Fr.setCell (Fr.setCell (Fr.setCell (Fr.setCell (Fr.refl (fun i=>i=w.heap.size+1) w1) (p:=⟨w.heap.size+1,0,none⟩) (.inl rfl) _) (p:=⟨w.heap.size+1,1,none⟩) (.inl rfl) _) (p:=⟨w.heap.size+1,2,none⟩) (.inl rfl) _) (p:=⟨w.heap.size+1,3,none⟩) (.inl rfl) _) (p:=⟨w.heap.size+1,4,none⟩) (.inl rfl) _) (p:=⟨w.heap.size+1,5,none⟩) (.inl rfl) _) (p:=⟨w.heap.size+1,6,none⟩) (.inl rfl) _) (fun i hi e=>hne1 (by rw [hi,e]))),?_,(((((((hI0.other _ _ hin).other _ _ hin).other _ _ hin).other _ _ hin).other _ _ hin).other _ _ hin).other _ _ hin)⟩
    have hle:w.heap.size≤w.heap.size+1:=by omega
    exact Below.setCell (Below.setCell (Below.setCell (Below.setCell (Below.setCell (Below.setCell (Below.setCell hk1 (p:=⟨w.heap.size+1,0,none⟩) hle _) (p:=⟨w.heap.size+1,1,none⟩) hle _) (p:=⟨w.heap.size+1,2,none⟩) hle _) (p:=⟨w.heap.size+1,3,none⟩) hle _) (p:=⟨w.heap.size+1,4,none⟩) hle _) (p:=⟨w.heap.size+1,5,none⟩) hle _) (p:=⟨w.heap.size+1,6,none⟩) hle _
 case rest =>
  clear hA hS hx0 hc0 hn0 hgl c0 c1 c2 c3 c4 c5 c6
  obtain ⟨gc,vr2,rfl,hgc,hvr2,hD2,hk2,hI2⟩:=hcut
  obtain ⟨wa,rfl⟩:∃ wa:World,wa=wc:=⟨_,rfl⟩
  have c6:wa.cell? ⟨gc,6,none⟩=some (.int .u64 (sz:Int)):=by rw [HE.out.1]; exact hD2.arr.cell 6
  have hgcl:=hD2.arr.lt
  have hszw:w.heap.size≤wa.heap.size:=Below.size hk2
  obtain ⟨k,hk⟩:∃ k:Nat,k=(119 - sz % 64) % 64:=⟨_,rfl⟩
  have hk64:k<64:=by omega
  have s1:((119:Int) - (sz:Int) % 64) % 64=(k:Int):=by omega
  have HK:=Lib.hid hk; clear hk
  have hseg0:Seg (wa.alloc (.cells #[.int .u8 128] 5)) wa.heap.size 5 1 (.slice (some ⟨wa.heap.size,0,none⟩) 1 1) 1 [.int .u8 128]:=Seg.made wa #[.int .u8 128] 1 1 (Nat.le_refl _) (Nat.le_refl _) (by unfold maxLen; omega) (Nat.le_refl _)
  have hmkz:=AIk (P:=Tryd.prog) _ wa.heap.size 23 3 23 5 (.int .u8 0) 1 .i64 .i64 Tryd.underlying23 Tryd.underlying3 Tryd.infoU8 rfl wa.heap.size 0 1 [.int .u8 128] hseg0 k (by unfold maxLen; omega) (by omega)
  obtain ⟨v',w1,hr,hS1,hg1⟩:=hmkz
  rw [←s1] at hr
  have HR:=Lib.hid hr; clear hr hseg0 s1
  go_upto_region 3 with (fail)
  go_cut [5] (fun v wr=>v=v'∧wr=w1)
  case first =>
   go_wp2_with (at_builtin; go_must (refine Lib.wpList_append_run _ rfl (.tmp 26) (.tmp 32) 23 3 rfl _ _ rfl rfl v' w1 HR.out ?_))
   go_wp2
   go_meet
   case rel=>exact ⟨rfl,rfl⟩
  case rest =>
   obtain ⟨rfl,rfl⟩:=hcut
   have hkw:Ato wa wc:=Ato.trans ((Ato.refl wa).alloc _) (Awx hg1)
   have hsp:Seg wc wa.heap.size 5 1 u5 (1+k) (bv (128::List.replicate k 0)):=by
    have e:bv (128::List.replicate k 0)=[Value.int .u8 128]++List.replicate k (Value.int .u8 0):=by simp [bv]
    rw [e]; exact hS1
   clear hg1 hS1 HR c6
   obtain ⟨nn,hnn⟩:∃ nn:Nat,nn=sz*8 % 18446744073709551616:=⟨_,rfl⟩
   have hn4:IntKind.u64.wrap ((sz:Int)*8)=(nn:Int):=by rw [IntKind.wrap_u64]; omega
   have hnl:nn<18446744073709551616:=by omega
   have HN:=Lib.hid hnn; clear hnn
   rw [hn4]
   clear hn4
   obtain ⟨wb,rfl⟩:∃ wb:World,wb=wc:=⟨_,rfl⟩
   go_upto_block 0 with (fail)
   go_cut [5] (fun v wr=>∃ m:List UInt8,m=128::List.replicate k 0++be8 nn∧Seg wr wa.heap.size 5 1 v m.length (bv m)∧Ato wa wr)
   case first =>
    go_wp2
    go_loopg [5,6,34] 8 (fun gn v _ iv wr=>∃ (i:Nat) (m:List UInt8),i≤8∧8≤i+gn∧iv = .int .i64 i∧Hid (m=128::List.replicate k 0++(be8 nn).take i)∧Seg wr wa.heap.size 5 1 v m.length (bv m)∧Ato wa wr)
    case atStart=>exact ⟨0,128::List.replicate k 0,by omega,by omega,rfl,by simp [Hid],by simpa [Nat.add_comm] using hsp,hkw⟩
    case round =>
     clear hsp hkw
     obtain ⟨i,m,hi,hig,rfl,hm,hsp,hkw⟩:=hrel
     by_cases hlt:i<8
     ·have hmi:(i:Int)<8:=by omega
      have hml:m.length≤1000:=by rw [hm.out]; simp [AyA]; omega
      go_wp2_with (at_builtin; go_must (refine AvX _ rfl (.tmp 37) (.tmp 44) 23 23 rfl wa.heap.size 5 (.int .u8 0) 1 1 Tryd.underlying23 Tryd.infoU8 rfl _ _ _ rfl (hsp.alloc _) _ 1 [_] rfl (ARj Tryd.underlying23 _ _ _ rfl) ?c1 ?c2 ?c3 ?_))
      case c1=>unfold maxLen; omega
      case c2=>omega
      case c3=>exact Nat.le_trans (Below.size hkw) (by simp)
      intro v2 w2 hS2 hg2 ho2
      have hkw2:Ato wa w2:=by
       refine Below.grown (hkw.alloc _) hg2 (Nat.le_trans (Below.size hkw) (by simp)) (fun j hj=>(hsp.lt j hj).1)
      have e8:=AHW (nn / 2 ^ (56 - 8*i))
      have hb8:=AUN nn i hlt
      generalize hy:UInt8.ofNat (nn / 2 ^ (56 - 8*i) % 256)=y at *
      have HY:=Lib.hid (And.intro e8 hb8)
      clear e8 hb8 hy
      go_wp2
      go_roundg (gk - 1)
      case measure=>omega
      case rel =>
       go_light
       refine ⟨i+1,m++[y],by omega,by omega,by go_num,?_,?_,hkw2⟩
       ·show m++[y]=_
        rw [HY.out.2,←List.append_assoc,←hm.out]
       ·rw [ATV m y (by rw [HY.out.1]; rfl)] at hS2
        rw [List.length_append]; exact hS2
     ·go_wp2
      go_meet
      case rel =>
       go_light
       refine ⟨m,?_,hsp,hkw⟩
       rw [hm.out,List.take_of_length_le (by rw [AyA]; omega)]
   case rest =>
    clear hsp hkw
    obtain ⟨m,hm,hsp,hkw⟩:=hcut
    have hpad:m=AKs all.length:=by
     rw [hm,AKs,HN.out,HK.out,HE.out.1]
     rw [show all.length % 18446744073709551616 % 64=all.length % 64 from by omega,show all.length % 18446744073709551616*8 % 18446744073709551616=all.length*8 % 18446744073709551616 from by omega]
    have HP:=Lib.hid hpad
    have hml:m.length≤1000:=by rw [hm]; simp [AyA]; omega
    clear hm hpad
    obtain ⟨x5,cap5,rfl,hn5,hc5,hx5⟩:=hsp.form
    have hD3:=hD2.fr (S:=fun _=>False) (Fr.of_keeps hkw _) (fun h=>h) (fun _ _ h=>h)
    have hag:0<m.length→∀ p,x5=some p→p.block≠gc:=by
     intro _ p hp e
     have h1:=(hsp.lt p.block (by rw [hp]; rfl)).1
     omega
    obtain ⟨we,rfl⟩:∃ we:World,we=wc:=⟨_,rfl⟩
    have hszb:wa.heap.size≤we.heap.size:=Below.size hkw
    go_wp2_with fail
    (with_reducible refine (A41 _ _ _ _ _ _ _ _ hD3 hsp.bytes hag (by omega) (by omega)).mono ?_)
    rintro e w4 ⟨rfl,vr4,hD4,hF4,_⟩
    have hk4:Ato w w4:=((Fr.of_keeps (Ato.trans hk2 hkw) (fun _=>False)).then hF4 (fun i hi h=>by
     rcases h with h | h
     ·omega
     ·have:=hvr2 i h; omega)).keeps (fun _ _ h=>h)
    have hI4:Arr w4 w.heap.size 30 (z8 20):=(hI2.keep hkw).fr hF4 (fun h=>by
     rcases h with h | h
     ·exact hI2.ne hD2.arr (by decide) h
     ·exact hD2.seg.ne_arr hI2 (by decide) h)
    rw [HP.out] at hD4
    have hA4:=hD4.arr
    have hV:(Auj H0 (all++AKs all.length)).1.ok:=AOZ _ _ A2o
    have hsha:sha all=Awm (Auj H0 (all++AKs all.length)).1:=rfl
    have HS:=Lib.hid hsha; clear hsha
    generalize (Auj H0 (all++AKs all.length)).1=V at *
    clear hD4 hF4 hD3 hsp hD2 hkw hag hx5
    go_upto_block 2 with (fail)
    have hid0:Arr (w4.alloc (.cells #[.int .u8 0,.int .u8 0,.int .u8 0,.int .u8 0,.int .u8 0,.int .u8 0,.int .u8 0,.int .u8 0,.int .u8 0,.int .u8 0,.int .u8 0,.int .u8 0,.int .u8 0,.int .u8 0,.int .u8 0,.int .u8 0,.int .u8 0,.int .u8 0,.int .u8 0,.int .u8 0] 30)) w4.heap.size 30 (bv ((Awm V).take 0)++z8 (20 - 0)):=Arr.new _ _ _
    have hA5:=hA4.alloc (.cells #[.int .u8 0,.int .u8 0,.int .u8 0,.int .u8 0,.int .u8 0,.int .u8 0,.int .u8 0,.int .u8 0,.int .u8 0,.int .u8 0,.int .u8 0,.int .u8 0,.int .u8 0,.int .u8 0,.int .u8 0,.int .u8 0,.int .u8 0,.int .u8 0,.int .u8 0,.int .u8 0] 30)
    have hI5:=hI4.alloc (.cells #[.int .u8 0,.int .u8 0,.int .u8 0,.int .u8 0,.int .u8 0,.int .u8 0,.int .u8 0,.int .u8 0,.int .u8 0,.int .u8 0,.int .u8 0,.int .u8 0,.int .u8 0,.int .u8 0,.int .u8 0,.int .u8 0,.int .u8 0,.int .u8 0,.int .u8 0,.int .u8 0] 30)
    have hk5:=hk4.alloc (.cells #[.int .u8 0,.int .u8 0,.int .u8 0,.int .u8 0,.int .u8 0,.int .u8 0,.int .u8 0,.int .u8 0,.int .u8 0,.int .u8 0,.int .u8 0,.int .u8 0,.int .u8 0,.int .u8 0,.int .u8 0,.int .u8 0,.int .u8 0,.int .u8 0,.int .u8 0,.int .u8 0] 30)
    have l4:=hA4.lt
    have l5:=hI4.lt
    have hk4s:w.heap.size≤w4.heap.size:=Below.size hk4
    go_cut [] (fun wr=>Arr wr w4.heap.size 30 (bv (Awm V))∧Arr wr w.heap.size 30 (z8 20)∧Ato w wr)
    case first =>
     go_wp2
     go_loopg [8,49] 20 (fun gn _ iv wr=>∃ i:Nat,i≤20∧20≤i+gn∧iv = .int .i64 i∧Arr wr w4.heap.size 30 (bv ((Awm V).take i)++z8 (20 - i))∧Arr wr gc 95 (AxU V.list++[vr4,.int .u64 (((all++AKs all.length).length % 18446744073709551616:Nat):Int)])∧Arr wr w.heap.size 30 (z8 20)∧Ato w wr)
     case atStart=>exact ⟨0,by omega,by omega,rfl,hid0,hA5,hI5,hk5⟩
     case round =>
      clear hid0 hA5 hI5 hk5 hA4 hI4 hk4
      obtain ⟨i,hi,hig,rfl,hid,hA,hI,hk⟩:=hrel
      by_cases hlt:i<20
      ·have hmi:(i:Int)<20:=by omega
       have hq4:(i:Int) / 4<5:=by omega
       have ci:wr.cell? ⟨w4.heap.size,i,none⟩=some (.int .u8 0):=by rw [hid.cell]; exact AUU V i hlt
       have fi:=hid.frozen i
       have ch:wr.cell? ⟨gc,i / 4,none⟩=some (.int .u32 ((V.list.getD (i / 4) 0:Nat):Int)):=by
        rw [hA.cell,List.getElem?_append_left (by simp [V5.list]; omega)]; exact AKC V _ (by omega)
       have hbv:=hV.get (i / 4)
       have e8:=AHW (V.list.getD (i / 4) 0 / 2 ^ (24 - 8*(i % 4)))
       have hb8:=AQo V i hlt
       generalize hy:UInt8.ofNat (V.list.getD (i / 4) 0 / 2 ^ (24 - 8*(i % 4)) % 256)=y at *
       have HY:=Lib.hid (And.intro e8 hb8)
       clear e8 hb8 hy
       generalize V.list.getD (i / 4) 0=q at *
       go_wp2
       go_roundg (gk - 1)
       case measure=>omega
       case rel =>
        go_light
        have n1:gc≠w4.heap.size:=by omega
        have n2:w.heap.size≠w4.heap.size:=by omega
        refine ⟨i+1,by omega,by omega,by go_num,?_,hA.other _ _ n1,hI.other _ _ n2,Below.setCell hk (p:=⟨w4.heap.size,i,none⟩) (by show w.heap.size≤w4.heap.size; omega) _⟩
        have h5:=hid.set i (.int .u8 ((q:Int) / 2 ^ (24 - 8*(i % 4)) % 256))
        rw [AYM V i hlt HY.out.2 (by rw [HY.out.1]; rfl)] at h5
        exact h5
      ·have HI:=Lib.hid (show i=20 by omega)
       rw [HI.out] at hid
       go_wp2
       go_meet
       case rel =>
        go_light
        refine ⟨?_,hI,hk⟩
        have e:bv ((Awm V).take 20)++z8 (20 - 20)=bv (Awm V):=by
         rw [List.take_of_length_le (by rw [AuJ]; omega)]; simp [z8]
        rw [←e]; exact hid
    case rest =>
     clear hid0 hA5 hI5 hk5 hA4 hI4 hk4 l4 l5 hk4s
     obtain ⟨hid,hI,hk⟩:=hcut
     have hl:(bv (Awm V)).length=(z8 20).length:=by rw [AxK,AuJ]; rfl
     have hsa:=hI.setAll hl
     have hks:=Ato.setCells (Nat.le_refl _) (bv (Awm V)) 0 _ hk
     have hth:=hI.there 20 (by simp [z8])
     unfold Arr at hid hsa
     have z1:(Tryd.prog.info? 30).map (·.size)=some (bv (Awm V)).toArray.size:=by rw [List.size_toArray,AxK,AuJ]; kernel_rfl
     have z2:wc.there w.heap.size 0 (bv (Awm V)).toArray.size:=by rw [show (bv (Awm V)).toArray.size=20 from by simp [AuJ]]; exact hth
     have z3:=all_oneCell_toArray (AKb (Awm V))
     have Z1:=Lib.hid z1
     clear z1
     clear hth
     go_upto_region 16 with (fail)
     go_wp2_with (first | (with_reducible refine wpList_load_row rfl 30 (.tmp 7) rfl _ rfl 30 (bv (Awm V)).toArray (0,0) _ hid Tryd.underlying30 rfl Z1.out ?_) | (with_reducible refine wpList_store_mid rfl 30 (.tmp 2) (.tmp 66) rfl w.heap.size 0 (bv (Awm V)).toArray rfl rfl z2 Z1.out z3 ?_))
     rw [HS.out]
     refine bodyPost_ret (results_cell_row rfl _ _ w.heap.size 30 (bv (Awm V)).toArray (0,0) _ rfl hsa Tryd.underlying30 rfl Z1.out) rfl ⟨rfl,hks⟩
end Go.Proofs.YtnkpoloeifhflaaDoor.Kit
namespace Go.Proofs.YtnkpoloeifhflaaDoor.Kit
open Go.RowKit
theorem BeF (l:List UInt8) (hl:l.length=20):(bv l).length=(z8 20).length:=by rw [AxK,hl]; rfl
set_option maxRecDepth 100000 in
set_option maxHeartbeats 1000000 in
theorem A8H (a:Option Addr) (cap:Nat) (b:List UInt8) (w:World) (hb:Bs w a b) (hbl:b.length≤1000000000) :
  Calls Tryd.prog 13 #[.slice a b.length cap] w fun e w'=>e = .returned (.agg (bv (sha b)).toArray)∧Ato w w':=by
 go_enter Tryd.func13,Tryd.ntmps13
 go_wp2_with fail
 have hI0:Arr (w.alloc (.cells #[.int .u8 0,.int .u8 0,.int .u8 0,.int .u8 0,.int .u8 0,.int .u8 0,.int .u8 0,.int .u8 0,.int .u8 0,.int .u8 0,.int .u8 0,.int .u8 0,.int .u8 0,.int .u8 0,.int .u8 0,.int .u8 0,.int .u8 0,.int .u8 0,.int .u8 0,.int .u8 0] 30)) w.heap.size 30 (z8 20):=Arr.new _ _ _
 have hk0:=(Ato.refl w).alloc (.cells #[.int .u8 0,.int .u8 0,.int .u8 0,.int .u8 0,.int .u8 0,.int .u8 0,.int .u8 0,.int .u8 0,.int .u8 0,.int .u8 0,.int .u8 0,.int .u8 0,.int .u8 0,.int .u8 0,.int .u8 0,.int .u8 0,.int .u8 0,.int .u8 0,.int .u8 0,.int .u8 0] 30)
 (with_reducible refine (Bac _).mono ?_)
 rintro e w1 ⟨rfl,hD,hk1⟩
 have hI1:=hI0.keep hk1
 have hk2:=Ato.trans hk0 hk1
 have hsz:w.heap.size≤w1.heap.size:=Below.size hk2
 rw [World.size_alloc] at hD
 have hag:0<b.length→∀ p,a=some p→p.block≠w.heap.size+1:=by
  intro hl p hp e
  have:=hb.lt hl p hp; omega
 clear hI0 hk0 hk1
 go_wp2_with fail
 (with_reducible refine (A41 _ _ _ _ _ _ _ _ hD (hb.keep hk2) hag hbl (by omega)).mono ?_)
 rintro e w2 ⟨rfl,vr,hD2,hF2,ho⟩
 simp only [List.nil_append] at hD2
 have hI2:Arr w2 w.heap.size 30 (z8 20):=hI1.fr hF2 (fun h=>by
  rcases h with h | h
  ·omega
  ·cases h)
 have hk3:Ato w w2:=((Fr.of_keeps hk2 (fun _=>False)).then hF2 (fun i hi h=>by
  rcases h with h | h
  ·omega
  ·cases h)).keeps (fun _ _ h=>h)
 go_wp2_with fail
 (with_reducible refine (Bay _ _ _ _ _ hD2 (by omega)).mono ?_)
 rintro e w3 ⟨rfl,hk4⟩
 have hk:=Ato.trans hk3 hk4
 have hI:=hI2.keep hk4
 clear hk3 hk4 hI2 hD2 hF2 ho hD hI1 hk2
 have hl:(sha b).length=20:=AAt b
 generalize hX:sha b=X at *
 have HX:=Lib.hid hX; clear hX
 have hsa:=hI.setAll (BeF X hl)
 have hks:=Ato.setCells (Nat.le_refl _) (bv X) 0 _ hk
 have z1:(Tryd.prog.info? 30).map (·.size)=some (bv X).toArray.size:=by rw [List.size_toArray,AxK,hl]; kernel_rfl
 have z2:w3.there w.heap.size 0 (bv X).toArray.size:=by rw [show (bv X).toArray.size=20 from by simp [hl]]; exact hI.there 20 (by simp [z8])
 have z3:=all_oneCell_toArray (AKb X)
 have Z1:=Lib.hid z1
 clear z1
 unfold Arr at hsa
 go_wp2_with (with_reducible refine wpList_store_mid rfl 30 (.tmp 2) (.tmp 9) rfl w.heap.size 0 (bv X).toArray rfl rfl z2 Z1.out z3 ?_)
 refine bodyPost_ret (results_cell_row rfl _ _ w.heap.size 30 (bv X).toArray (0,0) _ rfl hsa Tryd.underlying30 rfl Z1.out) rfl ⟨by rw [HX.out],hks⟩
end Go.Proofs.YtnkpoloeifhflaaDoor.Kit
namespace Go.Proofs.YtnkpoloeifhflaaDoor.Kit
open Go.RowKit
def Z80:Array Value:=(ALP 80).toArray
theorem Tryd.zero80 (w:World):(zeroValue 96).run Tryd.prog w = .ok (.agg Z80) w:=by kernel_rfl
set_option maxRecDepth 100000 in
set_option maxHeartbeats 4000000 in
theorem A0y (h:V5) (a:Option Addr) (cap:Nat) (p:List UInt8) (w:World) (hh:h.ok) (hb:Bs w a p) (hp:p.length=64) :
  Calls Tryd.prog 33 #[.agg #[.int .u32 h.a,.int .u32 h.b,.int .u32 h.c,.int .u32 h.d,.int .u32 h.e],.slice a 64 cap] w fun e w' =>
   e = .returned (.agg #[.int .u32 (blk h p).a,.int .u32 (blk h p).b,.int .u32 (blk h p).c,.int .u32 (blk h p).d,.int .u32 (blk h p).e])∧Ato w w':=by
 have HP:=Lib.hid hp
 have hz:=Tryd.zero80
 clear hp
 go_enter Tryd.func33,Tryd.ntmps33
 go_upto_block 0 with (fail)
 have h0:Arr (((w.alloc (.cells #[.int .u32 h.a,.int .u32 h.b,.int .u32 h.c,.int .u32 h.d,.int .u32 h.e] 71)).alloc (.cells #[.int .u32 0,.int .u32 0,.int .u32 0,.int .u32 0,.int .u32 0] 71)).alloc (.cells Z80 96)) w.heap.size 71 (AxU h.list):=((Arr.new _ _ _).alloc _).alloc _
 have h1:Arr (((w.alloc (.cells #[.int .u32 h.a,.int .u32 h.b,.int .u32 h.c,.int .u32 h.d,.int .u32 h.e] 71)).alloc (.cells #[.int .u32 0,.int .u32 0,.int .u32 0,.int .u32 0,.int .u32 0] 71)).alloc (.cells Z80 96)) (w.heap.size+1) 71 (ALP 5):=(Arr.newAt _ _ _ _ (by simp)).alloc _
 have h2:Arr (((w.alloc (.cells #[.int .u32 h.a,.int .u32 h.b,.int .u32 h.c,.int .u32 h.d,.int .u32 h.e] 71)).alloc (.cells #[.int .u32 0,.int .u32 0,.int .u32 0,.int .u32 0,.int .u32 0] 71)).alloc (.cells Z80 96)) (w.heap.size+1+1) 96 (ALP 80):=Arr.newAt _ _ _ _ (by simp)
 have hk0:Ato w (((w.alloc (.cells #[.int .u32 h.a,.int .u32 h.b,.int .u32 h.c,.int .u32 h.d,.int .u32 h.e] 71)).alloc (.cells #[.int .u32 0,.int .u32 0,.int .u32 0,.int .u32 0,.int .u32 0] 71)).alloc (.cells Z80 96)):=(((Ato.refl w).alloc _).alloc _).alloc _
 go_cut [] (fun wc=>Arr wc (w.heap.size+1+1) 96 (AxU (wl p 16)++ALP (80 - 16))∧Arr wc w.heap.size 71 (AxU h.list)∧Arr wc (w.heap.size+1) 71 (ALP 5)∧Ato w wc)
 case first =>
  go_wp2
  go_loopw [6] (fun i wr=>∃ k:Nat,k≤16∧i = .int .i64 k∧Arr wr (w.heap.size+1+1) 96 (AxU (wl p k)++ALP (80 - k))∧Arr wr w.heap.size 71 (AxU h.list)∧Arr wr (w.heap.size+1) 71 (ALP 5)∧Ato w wr) (fun i _=>16 - (intOf i).toNat)
  case atStart=>exact ⟨0,by omega,rfl,h2,h0,h1,hk0⟩
  case round =>
   clear h0 h1 h2 hk0
   obtain ⟨k,hk,rfl,h2,h0,h1,hk0⟩:=hrel
   by_cases hlt:k<16
   ·have hc:wr.cell? ⟨w.heap.size+1+1,k,none⟩=some (.int .u32 0):=by rw [h2.cell]; exact AT8 p k (by omega)
    have hf:=h2.frozen k
    go_wp2_with fail
    (with_reducible refine (A1K _ _ _ _ _ (hb.keep hk0) HP.out (by omega)).mono ?_)
    rintro e w' ⟨rfl,n,rfl⟩
    go_wp2
    go_roundw
    case rel =>
     go_light
     refine ⟨k+1,by omega,by go_num,?_,h0.other _ _ (by simp; omega),h1.other _ _ (by simp),Below.setCell (hk0.drewN n) (by simp; omega) _⟩
     have h3:=Arr.set (h2.drewN n) k (.int .u32 ((AZz p (4*k):Nat):Int))
     rw [AUD p k _ (by omega) (by unfold AQZ; rw [if_pos hlt])] at h3
     exact h3
    case measure=>simp [intOf]; omega
   ·have HK:=Lib.hid (show k=16 by omega)
    rw [HK.out] at h2
    go_wp2
    go_meet
    case rel=>exact ⟨h2,h0,h1,hk0⟩
 case rest =>
  clear h0 h1 h2 hk0
  obtain ⟨h2,h0,h1,hk0⟩:=hcut
  go_upto_block 2 with (fail)
  go_cut [] (fun wc=>Arr wc (w.heap.size+1+1) 96 (AxU (wl p 80)++ALP (80 - 80))∧Arr wc w.heap.size 71 (AxU h.list)∧Arr wc (w.heap.size+1) 71 (ALP 5)∧Ato w wc)
  case first =>
   go_wp2
   go_loopw [7,8] (fun i _ wr=>∃ k:Nat,16≤k∧k≤80∧i = .int .i64 k∧Arr wr (w.heap.size+1+1) 96 (AxU (wl p k)++ALP (80 - k))∧Arr wr w.heap.size 71 (AxU h.list)∧Arr wr (w.heap.size+1) 71 (ALP 5)∧Ato w wr) (fun i _ _=>80 - (intOf i).toNat)
   case atStart=>exact ⟨16,by omega,by omega,rfl,h2,h0,h1,hk0⟩
   case round =>
    clear h0 h1 h2 hk0
    obtain ⟨k,hk16,hk,rfl,h2,h0,h1,hk0⟩:=hrel
    by_cases hlt:k<80
    ·have hc:wr.cell? ⟨w.heap.size+1+1,k,none⟩=some (.int .u32 0):=by rw [h2.cell]; exact AT8 p k (by omega)
     have hf:=h2.frozen k
     have r3:wr.cell? ⟨w.heap.size+1+1,k - 3,none⟩=some (.int .u32 (((wl p k).getD (k - 3) 0:Nat):Int)):=by rw [h2.cell]; exact AED p k _ (by omega)
     have r8:wr.cell? ⟨w.heap.size+1+1,k - 8,none⟩=some (.int .u32 (((wl p k).getD (k - 8) 0:Nat):Int)):=by rw [h2.cell]; exact AED p k _ (by omega)
     have r14:wr.cell? ⟨w.heap.size+1+1,k - 14,none⟩=some (.int .u32 (((wl p k).getD (k - 14) 0:Nat):Int)):=by rw [h2.cell]; exact AED p k _ (by omega)
     have r16:wr.cell? ⟨w.heap.size+1+1,k - 16,none⟩=some (.int .u32 (((wl p k).getD (k - 16) 0:Nat):Int)):=by rw [h2.cell]; exact AED p k _ (by omega)
     have hn:AQZ p (wl p k) k=rot ((((wl p k).getD (k - 3) 0 ^^^ (wl p k).getD (k - 8) 0) ^^^ (wl p k).getD (k - 14) 0) ^^^ (wl p k).getD (k - 16) 0) 1:=by unfold AQZ; rw [if_neg (by omega)]
     have b3:=Axe p k (k - 3)
     have b8:=Axe p k (k - 8)
     have b14:=Axe p k (k - 14)
     have b16:=Axe p k (k - 16)
     generalize (wl p k).getD (k - 3) 0=x3 at *
     generalize (wl p k).getD (k - 8) 0=x8 at *
     generalize (wl p k).getD (k - 14) 0=x14 at *
     generalize (wl p k).getD (k - 16) 0=x16 at *
     have HN:=Lib.hid hn; clear hn
     go_wp2
     go_quiet (fail)
     go_wp2_with fail
     rw [AUy _ _ _ _ b3 b8 b14 b16]
     (with_reducible refine (turn _ _ _ (Aul (Aul (Aul b3 b8) b14) b16) (.inl rfl)).mono ?_)
     rintro e w' ⟨rfl,n2,rfl⟩
     go_wp2
     go_roundw
     case rel =>
      go_light
      refine ⟨k+1,by omega,by omega,by go_num,?_,h0.other _ _ (by simp; omega),h1.other _ _ (by simp),Below.setCell (hk0.drewN _) (by simp; omega) _⟩
      have h3:=Arr.set (h2.drewN (nq+n2)) k (.int .u32 (((rot (((x3 ^^^ x8) ^^^ x14) ^^^ x16) 1:Nat):Int)))
      rw [AUD p k _ (by omega) HN.out.symm] at h3
      exact h3
     case measure=>simp [intOf]; omega
    ·have HK:=Lib.hid (show k=80 by omega)
     rw [HK.out] at h2
     go_wp2
     go_meet
     case rel=>exact ⟨h2,h0,h1,hk0⟩
  case rest =>
   clear h0 h1 h2 hk0
   obtain ⟨h2,h0,h1,hk0⟩:=hcut
   obtain ⟨c0,c1,c2,c3,c4⟩:=h0.five
   go_upto_block 4 with (fail)
   have hv0:Arr (wc.alloc (.cells #[.int .u32 h.a,.int .u32 h.b,.int .u32 h.c,.int .u32 h.d,.int .u32 h.e] 71)) wc.heap.size 71 (AxU h.list):=Arr.new _ _ _
   have l0:=h0.lt
   have l1:=h1.lt
   have l2:=h2.lt
   obtain ⟨wo,rfl⟩:∃ wo:World,wo=wc:=⟨_,rfl⟩
   clear c0 c1 c2 c3 c4
   go_cut [] (fun wc=>Arr wc wo.heap.size 71 (AxU (ATq 0 h (wl p 80)).list)∧Arr wc w.heap.size 71 (AxU h.list)∧Arr wc (w.heap.size+1) 71 (ALP 5)∧Ato w wc)
   case first =>
    go_wp2
    go_loopw [10,11,12,13] (fun i _ _ _ wr=>∃ (i':Nat) (v:V5),i'≤80∧i = .int .i64 i'∧v.ok∧Arr wr wo.heap.size 71 (AxU v.list)∧AHo p h i' v∧Arr wr (w.heap.size+1+1) 96 (AxU (wl p 80)++ALP (80 - 80))∧Arr wr w.heap.size 71 (AxU h.list)∧Arr wr (w.heap.size+1) 71 (ALP 5)∧Ato w wr) (fun i _ _ _ _=>80 - (intOf i).toNat)
    case atStart=>exact ⟨0,h,by omega,rfl,hh,hv0,AHo.zero p h,h2.alloc _,h0.alloc _,h1.alloc _,hk0.alloc _⟩
    case round =>
     clear h0 h1 h2 hk0 hv0
     obtain ⟨i,v,hi,rfl,hv,hva,hr,h2,h0,h1,hk0⟩:=hrel
     by_cases hlt:i<80
     ·obtain ⟨c0,c1,c2,c3,c4⟩:=hva.five
      have f0:=hva.frozen 0
      have f1:=hva.frozen 1
      have f2:=hva.frozen 2
      have f3:=hva.frozen 3
      have f4:=hva.frozen 4
      have cw:wr.cell? ⟨w.heap.size+1+1,i,none⟩=some (.int .u32 (((wl p 80).getD i 0:Nat):Int)):=by rw [h2.cell]; exact A99 p i hlt
      have bw:=Axe p 80 i
      have HR:=hr.succ hlt; clear hr
      generalize (wl p 80).getD i 0=x at *
      obtain ⟨va,vb,vc,vd,ve⟩:=v
      obtain ⟨ba,bb,bc,bd,be⟩:=hv
      simp only at ba bb bc bd be c0 c1 c2 c3 c4
      have bf:sff i vb vc vd<4294967296:=A85 i bb bc bd
      go_upto_block 6 with (fail)
      go_cut [11,12] (fun f k wc=>f = .int .u32 (sff i vb vc vd:Nat)∧k = .int .u32 (skk i:Nat)∧wc=wr)
      case first =>
       rcases (show i<20∨(20≤i∧i<40)∨(40≤i∧i<60)∨60≤i from by omega) with hq | ⟨hq,hq2⟩ | ⟨hq,hq2⟩ | hq
       ·go_wp2
        go_meet
        case rel=>exact ⟨by rw [BdN hq,AYS _ _ _ bb bc bd],by rw [BdJ hq]; rfl,rfl⟩
       ·go_wp2
        go_meet
        case rel=>exact ⟨by rw [BdW hq hq2,AQW _ _ _ bb bc bd],by rw [BdO hq hq2]; rfl,rfl⟩
       ·go_wp2
        go_meet
        case rel=>exact ⟨by rw [Beg hq hq2,AYQ _ _ _ bb bc bd],by rw [Bef hq hq2]; rfl,rfl⟩
       ·go_wp2
        go_meet
        case rel=>exact ⟨by rw [Bd4 hq,AQW _ _ _ bb bc bd],by rw [BdB hq]; rfl,rfl⟩
      case rest =>
       obtain ⟨rfl,rfl,rfl⟩:=hcut
       have hrt:ABf i ⟨va,vb,vc,vd,ve⟩ x=((((rot va 5+sff i vb vc vd) % 4294967296+ve) % 4294967296+skk i) % 4294967296+x) % 4294967296:=rfl
       have HT:=Lib.hid hrt; clear hrt
       have br:=AYy 5 ba
       have bk:skk i<4294967296:=by unfold skk; split<;>(try split)<;>(try split)<;>omega
       generalize sff i vb vc vd=F at *
       generalize skk i=KK at *
       go_wp2
       go_quiet ((go_at_call 50; exact Calls.quiet_of (turn _ _ _ ba (.inr (.inl rfl)))))
       go_wp2_with fail
       (with_reducible refine (turn _ _ _ bb (.inr (.inr rfl))).mono ?_)
       rintro e w' ⟨rfl,n2,rfl⟩
       go_wp2
       go_roundw
       case rel =>
        go_light
        have n0:w.heap.size≠wo.heap.size:=by omega
        have n1:w.heap.size+1≠wo.heap.size:=by omega
        have n2':w.heap.size+1+1≠wo.heap.size:=by omega
        refine ⟨i+1,rnd i ⟨va,vb,vc,vd,ve⟩ x,by omega,by go_num,AQe i x ⟨ba,bb,bc,bd,be⟩,?_,HR,?_,?_,?_,?_⟩
        ·have h5:=(((((hva.drewN nq).set 4 (.int .u32 vd)).set 3 (.int .u32 vc)).drewN n2).set 2 (.int .u32 (rot vb 30:Nat))).set 1 (.int .u32 va) |>.set 0 (.int .u32 (ABf i ⟨va,vb,vc,vd,ve⟩ x:Nat))
         have e2:((ABf i ⟨va,vb,vc,vd,ve⟩ x:Nat):Int)=(((rot va 5:Nat):Int)+F+ve+KK+x) % 4294967296:=by rw [HT.out]; omega
         rw [←e2]
         exact h5
        ·exact ((((((h2.drewN nq).other _ _ n2').other _ _ n2').drewN n2).other _ _ n2').other _ _ n2').other _ _ n2'
        ·exact ((((((h0.drewN nq).other _ _ n0).other _ _ n0).drewN n2).other _ _ n0).other _ _ n0).other _ _ n0
        ·exact ((((((h1.drewN nq).other _ _ n1).other _ _ n1).drewN n2).other _ _ n1).other _ _ n1).other _ _ n1
        ·have hle:w.heap.size≤wo.heap.size:=by omega
         exact Below.setCell (Below.setCell (Below.setCell (Below.drewN' n2 (Below.setCell (Below.setCell (hk0.drewN nq) (p:=⟨wo.heap.size,4,none⟩) hle _) (p:=⟨wo.heap.size,3,none⟩) hle _)) (p:=⟨wo.heap.size,2,none⟩) hle _) (p:=⟨wo.heap.size,1,none⟩) hle _) (p:=⟨wo.heap.size,0,none⟩) hle _
       case measure=>simp [intOf]; omega
     ·have HK:=Lib.hid (show i=80 by omega)
      rw [HK.out] at hr
      have hva':=hva
      rw [hr.last] at hva'
      clear hva hr
      go_wp2
      go_meet
      case rel=>exact ⟨hva',h0,h1,hk0⟩
   case rest =>
    clear h0 h1 h2 hk0 hv0
    obtain ⟨hva,h0,h1,hk0⟩:=hcut
    have hV:(ATq 0 h (wl p 80)).ok:=AWY _ _ _ hh
    have hB:blk h p=A68 h (ATq 0 h (wl p 80)):=rfl
    have HB:=Lib.hid hB; clear hB
    generalize ATq 0 h (wl p 80)=V at *
    go_wp2
    go_loopw [14] (fun i wr=>∃ k:Nat,k≤5∧i = .int .i64 k∧Arr wr wo.heap.size 71 (AxU V.list)∧Arr wr w.heap.size 71 (AxU (A44 h V k))∧Arr wr (w.heap.size+1) 71 (ALP 5)∧Ato w wr) (fun i _=>5 - (intOf i).toNat)
    case atStart=>exact ⟨0,by omega,rfl,hva,h0,h1,hk0⟩
    case round =>
     clear hva h0 h1 hk0
     obtain ⟨k,hk,rfl,hva,h0,h1,hk0⟩:=hrel
     by_cases hlt:k<5
     ·have cv:wr.cell? ⟨wo.heap.size,k,none⟩=some (.int .u32 ((V.list.getD k 0:Nat):Int)):=by rw [hva.cell]; exact AKC V k hlt
      have ch:wr.cell? ⟨w.heap.size,k,none⟩=some (.int .u32 ((h.list.getD k 0:Nat):Int)):=by rw [h0.cell]; exact AVj h V k hlt
      have fh:=h0.frozen k
      have b1:=hV.get k
      have b2:=hh.get k
      have hs:=AUY h V k hlt
      have HS:=Lib.hid hs; clear hs
      generalize V.list.getD k 0=x at *
      generalize h.list.getD k 0=y at *
      have hki:(k:Int)<5:=by omega
      go_wp2
      go_still_tail 9,(by kernel_rfl)
      go_wp2
      go_roundw
      case rel =>
       go_light
       refine ⟨k+1,by omega,by go_num,hva.other _ _ (by simp; omega),?_,h1.other _ _ (by simp),Below.drew (Below.setCell hk0 (Nat.le_refl _) _)⟩
       have h5:=h0.set k (.int .u32 (((y+x) % 4294967296:Nat):Int))
       rw [HS.out,show (((y+x) % 4294967296:Nat):Int)=((y:Int)+x) % 4294967296 from by omega] at h5
       exact h5
      case measure=>simp [intOf]; omega
     ·have HK:=Lib.hid (show k=5 by omega)
      rw [HK.out,ATd] at h0
      obtain ⟨c0,c1,c2,c3,c4⟩:=h0.five
      obtain ⟨d0,d1,d2,d3,d4⟩:=h1.five
      have f0:=h1.frozen 0
      have f1:=h1.frozen 1
      have f2:=h1.frozen 2
      have f3:=h1.frozen 3
      have f4:=h1.frozen 4
      generalize A68 h V=R at *
      go_wp2
      rw [HB.out]
      have hle:w.heap.size≤w.heap.size+1:=by omega
      refine bodyPost_ret (v := .agg #[.int .u32 R.a,.int .u32 R.b,.int .u32 R.c,.int .u32 R.d,.int .u32 R.e]) (by simp [results,Tryd.results33,go_sem,d0,d1,d2,d3,d4]) rfl ⟨rfl,?_⟩
      exact Below.setCell (Below.setCell (Below.setCell (Below.setCell (Below.setCell hk0 (p:=⟨w.heap.size+1,0,none⟩) hle _) (p:=⟨w.heap.size+1,1,none⟩) hle _) (p:=⟨w.heap.size+1,2,none⟩) hle _) (p:=⟨w.heap.size+1,3,none⟩) hle _) (p:=⟨w.heap.size+1,4,none⟩) hle _
end Go.Proofs.YtnkpoloeifhflaaDoor.Kit
