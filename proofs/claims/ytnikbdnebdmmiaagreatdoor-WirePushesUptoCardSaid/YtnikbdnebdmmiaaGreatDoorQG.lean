/- WirePushesUptoCard: the law, proved out of contracts of the functions that it reaches (texts merged; names shortened by a program). No condition is laid on it. -/
import Derived.Test.YtnikbdnebdmmiaaGreatDoorQF
import Derived.Test.YtnikbdnebdmmiaaGreatDoorQE
import Derived.Test.YtnikbdnebdmmiaaGreatDoorProg
import Derived.KernelRfl
import Derived.SevenTiedAt
import Derived.Test.YtnikbdnebdmmiaaGreatDoorCards
import Derived.Test.YtnikbdnebdmmiaaGreatDoorTie
import Derived.Test.YtnikbdnebdmmiaaGreatDoorRows
import Derived.WalkKit
import Derived.ProofKit
import Derived.OpenShut
import Derived.ShutString
import Derived.ChangeOld
import Derived.Below
import Derived.SizedLaws
import Derived.ChangeVars
import Derived.LaidLaws
import Derived.LaidHandle
import Derived.Stop.Joined
import Derived.Stop.LaidErr
import Derived.ClosedOfChecked
import Derived.Deep.DeepHandedRow
import Derived.JoinedCond
set_option linter.defProp false
set_option linter.unusedSectionVars false
set_option linter.unusedSimpArgs false
set_option linter.unusedVariables false
namespace Go.Proofs.YtnikbdnebdmmiaaGreatDoor
section
open Go.RowKit
variable [AyT]
def ANi (s:List UInt8) (f i:Nat):Prop:=f≤i∧i≤s.length+1∧(∀ j c,j<i→s[j]?=some c→ALe c=true)∧(∀ j,j+1<i→¬ (s[j]?=some 46∧s[j+1]?=some 46)∧¬ (s[j]?=some 64∧s[j+1]?=some 123)) ∧
 ((f=s.length+1∧i=s.length+1∧(AzL 47 s).all Az6=true)∨(i≤s.length∧(AzL 47 s).all Az6=(AzL 47 (s.drop f)).all Az6∧47∉(s.drop f).take (i - f)))
theorem ANi.sep {s:List UInt8} {f i:Nat} (h:ANi s f i) (hi:i≤s.length) (hsep:i=s.length∨s[i]?=some 47):(AzL 47 s).all Az6=(Az6 ((s.drop f).take (i - f)) && (decide (i=s.length) || (AzL 47 (s.drop (i+1))).all Az6)):=by
 obtain ⟨h1,h2,h3,h4,h5⟩:=h
 rcases h5 with ⟨_,h5,_⟩ | ⟨_,h6,h7⟩
 ·omega
 rw [h6]
 by_cases he:i=s.length
 ·rw [List.take_of_length_le (by simp; omega)] at h7 ⊢
  rw [AVU h7]; simp [he]
 ·have hc:s[i]?=some 47:=by rcases hsep with h | h; exact absurd h he; exact h
  have hc':(s.drop f)[i - f]?=some 47:=by rw [List.getElem?_drop]; rw [←hc]; congr 1; omega
  rw [AWn hc' h7,List.drop_drop]
  simp only [he,decide_false,Bool.false_or,List.all_cons]
  congr 4; omega
theorem ANi.next {s:List UInt8} {f i:Nat} (h:ANi s f i) (hi:i≤s.length) (hsep:i=s.length∨s[i]?=some 47) (hp:Az6 ((s.drop f).take (i - f))=true):ANi s (i+1) (i+1):=by
 have hs:=h.sep hi hsep
 obtain ⟨h1,h2,h3,h4,h5⟩:=h
 rw [hp,Bool.true_and] at hs
 refine ⟨Nat.le_refl _,by omega,fun j c hj hc => ?_,fun j hj => ?_,?_⟩
 ·by_cases e:j=i
  ·subst e
   rcases hsep with h | h
   ·rw [List.getElem?_eq_none (by omega)] at hc; cases hc
   ·rw [h] at hc; cases hc; decide
  ·exact h3 j c (by omega) hc
 ·by_cases e:j+1=i
  ·rcases hsep with h | h
   ·rw [List.getElem?_eq_none (by omega:s.length≤j+1)]; simp
   ·rw [e,h]; simp
  ·exact h4 j (by omega)
 ·by_cases he:i=s.length
  ·left; exact ⟨by omega,by omega,by rw [hs]; simp [he]⟩
  ·right; exact ⟨by omega,by rw [hs]; simp [he],by simp⟩
theorem ANi.step {s:List UInt8} {f i:Nat} {c:UInt8} (h:ANi s f i) (hc:s[i]?=some c) (h47:c≠47) (hg:ALe c=true) (hp:∀ j,j+1=i→¬ (s[j]?=some 46∧c=46)∧¬ (s[j]?=some 64∧c=123)):ANi s f (i+1):=by
 have hi:i<s.length:=(List.getElem?_eq_some_iff.1 hc).1
 obtain ⟨h1,h2,h3,h4,h5⟩:=h
 refine ⟨by omega,by omega,fun j x hj hx => ?_,fun j hj => ?_,?_⟩
 ·by_cases e:j=i
  ·subst e; rw [hc] at hx; cases hx; exact hg
  ·exact h3 j x (by omega) hx
 ·by_cases e:j+1=i
  ·have:=hp j e
   rw [e,hc]
   simpa using this
  ·exact h4 j (by omega)
 ·rcases h5 with ⟨_,h5,_⟩ | ⟨_,h6,h7⟩
  ·omega
  ·right
   refine ⟨by omega,h6,?_⟩
   have hc':(s.drop f)[i - f]?=some c:=by rw [List.getElem?_drop]; rw [←hc]; congr 1; omega
   rw [show i+1 - f=(i - f)+1 by omega,List.take_add_one,hc']
   simp [h7,Ne.symm h47]
theorem AVY (c:UInt8):ALe c=true∧33≤c.toNat∧c.toNat≤126∧c.toNat≠126∧c.toNat≠94∧c.toNat≠58∧c.toNat≠63∧c.toNat≠42∧c.toNat≠91∧c.toNat≠92∨ALe c=false∧(c.toNat<33∨126<c.toNat∨c=126∨c=94∨c=58∨c=63∨c=42∨c=91∨c=92):=by
 cases h:ALe c with
 | true =>
  left
  unfold ALe at h
  rw [decide_eq_true_eq] at h
  obtain ⟨h1,h2,h3⟩:=h
  simp only [List.mem_cons,List.not_mem_nil,or_false,not_or,←UInt8.toNat_inj] at h3
  exact ⟨rfl,h1,h2,h3.1,h3.2.1,h3.2.2.1,h3.2.2.2.1,h3.2.2.2.2.1,h3.2.2.2.2.2.1,h3.2.2.2.2.2.2⟩
 | false =>
  right
  unfold ALe at h
  rw [decide_eq_false_iff_not] at h
  refine ⟨rfl,?_⟩
  by_cases h1:c.toNat<33
  ·exact .inl h1
  by_cases h2:126<c.toNat
  ·exact .inr (.inl h2)
  have h3:c∈[(126:UInt8),94,58,63,42,91,92]:=Decidable.not_not.1 fun h3=>h ⟨by omega,by omega,h3⟩
  simp only [List.mem_cons,List.not_mem_nil,or_false] at h3
  exact .inr (.inr h3)
theorem ASB {s:List UInt8} {v:TV} (h0:¬ s=[72,69,65,68]) (h:(AzL 47 s).all Az6=false) (hv:v=tb false:=by rfl):∃ b,v=tb b∧(b=true↔AVD s) :=
 ⟨false,hv,AzG (fun k=>k.elim h0 fun k=>by rw [k.2.2.2.2.2.2] at h; cases h) _ rfl⟩
set_option maxRecDepth 100000 in
set_option maxHeartbeats 2000000 in
theorem A39 (s:List UInt8) (hs:s.length≤4000000):Azg Tryz.prog 41 [ts s] (fun x=>∃ b,x=tb b∧(b=true↔AVD s)):=by
 refine AyJ.toPureV (ARv (by simp) ?_)
 by_cases h0:s=[72,69,65,68]
 ·subst h0
  simp -dsimp (disch:=first | assumption | omega) only [↓AyG,AyB,AyE,AyF,eq_self,↓reduceIte,reduceCtorEq,↓AyN]
  exact ⟨_,rfl,ARh (.inl rfl) _ rfl⟩
 by_cases h1:60<s.length
 ·simp -dsimp (disch:=first | assumption | omega) only [↓AyG,AyB,AyE,AyF,eq_self,Nat.reduceEqDiff,↓reduceIte,reduceCtorEq,↓AyN,h0,AyX]
  exact ⟨_,rfl,AzG (fun h=>h.elim h0 fun h=>by omega) _ rfl⟩
 by_cases h2:s.length<6
 ·simp -dsimp (disch:=first | assumption | omega) only [↓AyG,AyB,AyE,AyF,eq_self,Nat.reduceEqDiff,↓reduceIte,reduceCtorEq,↓AyN,h0,AyX]
  exact ⟨_,rfl,AzG (fun h=>h.elim h0 fun h=>A2f h2 ⟨h.2.1,h.2.2.2.2.2.2⟩) _ rfl⟩
 by_cases h3:s.take 5=[114,101,102,115,47]
 case neg =>
  simp -dsimp (disch:=first | assumption | omega) only [↓AyG,AyB,AyE,AyF,eq_self,Nat.reduceEqDiff,↓reduceIte,reduceCtorEq,↓AyN,h0,AyX,h3]
  exact ⟨_,rfl,AzG (fun h=>h.elim h0 fun h=>h3 h.2.1) _ rfl⟩
 obtain ⟨cl,hcl⟩:∃ c,s[s.length - 1]?=some c:=⟨_,List.getElem?_eq_getElem (by omega)⟩
 by_cases h4:cl=46
 ·subst h4
  simp -dsimp (disch:=first | assumption | omega) only [↓AyG,AyB,AyE,AyF,eq_self,Nat.reduceEqDiff,UInt8.reduceToNat,↓reduceIte,reduceCtorEq,↓AyN,h0,AyX,h3,hcl]
  exact ⟨_,rfl,AzG (fun h=>h.elim h0 fun h=>h.2.2.1 hcl) _ rfl⟩
 have h4':¬ cl.toNat=46:=fun e=>h4 (UInt8.toNat_inj.1 e)
 simp -dsimp (disch:=first | assumption | omega) only [↓AyG,AyB,AyE,AyF,eq_self,Nat.reduceEqDiff,↓reduceIte,reduceCtorEq,↓AyN,h0,AyX,h3,hcl,h4']
 refine ABj (fun q e H=>∃ f i:Nat,q=s.length+1 - i∧ANi s f i∧e=[(0,ts s),(3,i64 (s.length:Int)),(4,i64 (f:Int)),(5,i64 (i:Int))]∧H=[]) (s.length+1) ?_ ?_
 ·exact ⟨0,0,rfl,⟨by omega,by omega,fun j c h=>by omega,fun j h=>by omega,.inr ⟨by omega,rfl,by simp⟩⟩,rfl,rfl⟩
 ·rintro q e H ⟨f,i,rfl,hI,rfl,rfl⟩
  have hf:=hI.1
  by_cases hi:i≤s.length
  ·by_cases hsep:i=s.length∨s[i]?=some 47
   ·by_cases he:i=s.length
    ·subst he
     have hall:=hI.sep hi hsep
     have hplen:((s.drop f).take (s.length - f)).length=s.length - f:=by simp
     have h55:s.length - (s.length - 5)=5:=by omega
     have tk5:List.take 5 [(46:UInt8),108,111,99,107]=[46,108,111,99,107]:=rfl
     by_cases hk:s.length=f
     ·have hb:Az6 ((s.drop f).take (s.length - f))=false:=by rw [←hk]; simp [Az6]
      simp -dsimp (disch:=first | assumption | omega) only [↓AyG,AyB,AyE,AyF,eq_self,Nat.reduceEqDiff,↓reduceIte,reduceCtorEq,↓AyN]
      exact ASB h0 (by rw [hall,hb,Bool.false_and])
     obtain ⟨cf,hcf⟩:∃ c,s[f]?=some c:=⟨_,List.getElem?_eq_getElem (by omega)⟩
     have hp0:((s.drop f).take (s.length - f))[0]?=some cf:=by rw [List.getElem?_take,if_pos (by omega),List.getElem?_drop]; exact hcf
     by_cases h46:cf=46
     ·subst h46
      have hb:Az6 ((s.drop f).take (s.length - f))=false:=by unfold Az6; rw [decide_eq_false_iff_not]; exact fun h=>h.2.1 hp0
      simp -dsimp (disch:=first | assumption | omega) only [↓AyG,AyB,AyE,AyF,eq_self,Nat.reduceEqDiff,UInt8.reduceToNat,↓reduceIte,reduceCtorEq,↓AyN,AyX,hcf]
      exact ASB h0 (by rw [hall,hb,Bool.false_and])
     have d46:¬ cf.toNat=46:=fun e=>h46 (UInt8.toNat_inj.1 e)
     have hpne:(s.drop f).take (s.length - f)≠[]:=fun e=>by rw [e] at hp0; cases hp0
     by_cases h5:s.length - f<5
     ·have hb:Az6 ((s.drop f).take (s.length - f))=true:=by unfold Az6; rw [decide_eq_true_eq,hp0]; exact ⟨hpne,by simpa using h46,fun h=>by omega⟩
      simp -dsimp (disch:=first | assumption | omega) only [↓AyG,AyB,AyE,AyF,eq_self,Nat.reduceEqDiff,↓reduceIte,reduceCtorEq,↓AyN,AyX,hcf,d46]
      exact AyW (s.length+1 - (s.length+1)) (by omega) (by simp) ⟨s.length+1,s.length+1,rfl,hI.next hi hsep hb,rfl,rfl⟩
     have hdr:((s.drop f).take (s.length - f)).drop (((s.drop f).take (s.length - f)).length - 5)=s.drop (s.length - 5):=by
      rw [hplen,List.drop_take,List.drop_drop,List.take_of_length_le (by simp; omega)]; congr 1; omega
     by_cases hl:s.drop (s.length - 5)=[46,108,111,99,107]
     ·have hb:Az6 ((s.drop f).take (s.length - f))=false:=by unfold Az6; rw [decide_eq_false_iff_not]; exact fun h=>h.2.2 ⟨by omega,by rw [hdr]; exact hl⟩
      simp -dsimp (disch:=first | assumption | omega) only [↓AyG,AyB,AyE,AyF,eq_self,Nat.reduceEqDiff,↓reduceIte,reduceCtorEq,↓AyN,AyX,hcf,d46,hl,h55,tk5]
      exact ASB h0 (by rw [hall,hb,Bool.false_and])
     ·have hl':¬ (s.drop (s.length - 5)).take (s.length - (s.length - 5))=[46,108,111,99,107]:=by rw [List.take_of_length_le (by simp)]; exact hl
      have hb:Az6 ((s.drop f).take (s.length - f))=true:=by unfold Az6; rw [decide_eq_true_eq,hp0,hdr]; exact ⟨hpne,by simpa using h46,fun h=>hl h.2⟩
      simp -dsimp (disch:=first | assumption | omega) only [↓AyG,AyB,AyE,AyF,eq_self,Nat.reduceEqDiff,↓reduceIte,reduceCtorEq,↓AyN,AyX,hcf,d46]
      exact AyW (s.length+1 - (s.length+1)) (by omega) (by simp) ⟨s.length+1,s.length+1,rfl,hI.next hi hsep hb,rfl,rfl⟩
    ·have hc:s[i]?=some 47:=by rcases hsep with h | h; exact absurd h he; exact h
     have hall:=hI.sep hi hsep
     have hplen:((s.drop f).take (i - f)).length=i - f:=by simp; omega
     by_cases hk:i=f
     ·subst hk
      have hb:Az6 ((s.drop i).take (i - i))=false:=by simp [Az6]
      simp -dsimp (disch:=first | assumption | omega) only [↓AyG,AyB,AyE,AyF,eq_self,Nat.reduceEqDiff,UInt8.reduceToNat,↓reduceIte,reduceCtorEq,↓AyN,AyX,hc]
      exact ASB h0 (by rw [hall,hb,Bool.false_and])
     obtain ⟨cf,hcf⟩:∃ c,s[f]?=some c:=⟨_,List.getElem?_eq_getElem (by omega)⟩
     have hp0:((s.drop f).take (i - f))[0]?=some cf:=by rw [List.getElem?_take,if_pos (by omega),List.getElem?_drop]; exact hcf
     by_cases h46:cf=46
     ·subst h46
      have hb:Az6 ((s.drop f).take (i - f))=false:=by unfold Az6; rw [decide_eq_false_iff_not]; exact fun h=>h.2.1 hp0
      simp -dsimp (disch:=first | assumption | omega) only [↓AyG,AyB,AyE,AyF,eq_self,Nat.reduceEqDiff,UInt8.reduceToNat,↓reduceIte,reduceCtorEq,↓AyN,AyX,hc,hcf]
      exact ASB h0 (by rw [hall,hb,Bool.false_and])
     have d46:¬ cf.toNat=46:=fun e=>h46 (UInt8.toNat_inj.1 e)
     have hpne:(s.drop f).take (i - f)≠[]:=fun e=>by rw [e] at hp0; cases hp0
     by_cases h5:i - f<5
     ·have hb:Az6 ((s.drop f).take (i - f))=true:=by unfold Az6; rw [decide_eq_true_eq,hp0]; exact ⟨hpne,by simpa using h46,fun h=>by omega⟩
      simp -dsimp (disch:=first | assumption | omega) only [↓AyG,AyB,AyE,AyF,eq_self,Nat.reduceEqDiff,UInt8.reduceToNat,↓reduceIte,reduceCtorEq,↓AyN,AyX,hc,hcf,d46]
      exact AyW (s.length+1 - (i+1)) (by omega) (by simp) ⟨i+1,i+1,rfl,hI.next hi hsep hb,rfl,rfl⟩
     have hdr:((s.drop f).take (i - f)).drop (((s.drop f).take (i - f)).length - 5)=(s.drop (i - 5)).take 5:=by
      rw [hplen,List.drop_take,List.drop_drop]; congr 1; omega; congr 1; omega
     have h55:i - (i - 5)=5:=by omega
     by_cases hl:(s.drop (i - 5)).take 5=[46,108,111,99,107]
     ·have hb:Az6 ((s.drop f).take (i - f))=false:=by unfold Az6; rw [decide_eq_false_iff_not]; exact fun h=>h.2.2 ⟨by omega,by rw [hdr]; exact hl⟩
      simp -dsimp (disch:=first | assumption | omega) only [↓AyG,AyB,AyE,AyF,eq_self,Nat.reduceEqDiff,UInt8.reduceToNat,↓reduceIte,reduceCtorEq,↓AyN,AyX,hc,hcf,d46,hl,h55]
      exact ASB h0 (by rw [hall,hb,Bool.false_and])
     ·have hb:Az6 ((s.drop f).take (i - f))=true:=by unfold Az6; rw [decide_eq_true_eq,hp0,hdr]; exact ⟨hpne,by simpa using h46,fun h=>hl h.2⟩
      simp -dsimp (disch:=first | assumption | omega) only [↓AyG,AyB,AyE,AyF,eq_self,Nat.reduceEqDiff,UInt8.reduceToNat,↓reduceIte,reduceCtorEq,↓AyN,AyX,hc,hcf,d46,hl,h55]
      exact AyW (s.length+1 - (i+1)) (by omega) (by simp) ⟨i+1,i+1,rfl,hI.next hi hsep hb,rfl,rfl⟩
   ·have he:i<s.length:=by omega
    obtain ⟨c,hc⟩:∃ c,s[i]?=some c:=⟨_,List.getElem?_eq_getElem he⟩
    have h47:c≠47:=fun e=>hsep (.inr (by rw [hc,e]))
    have d47:¬ c.toNat=47:=fun e=>h47 (UInt8.toNat_inj.1 e)
    rcases AVY c with ⟨hg,g1,g2,g3,g4,g5,g6,g7,g8,g9⟩ | ⟨hg,hbad⟩
    ·by_cases c46:c=46
     ·subst c46
      by_cases hi0:i=0
      ·subst hi0
       simp -dsimp (disch:=first | assumption | omega) only [↓AyG,AyB,AyE,AyF,eq_self,Nat.reduceLT,Nat.reduceEqDiff,UInt8.reduceToNat,↓reduceIte,reduceCtorEq,↓AyN,AyX,hc]
       exact AyW (s.length+1 - (0+1)) (by omega) (by simp) ⟨f,0+1,rfl,hI.step hc h47 hg (fun j h=>by omega),rfl,rfl⟩
      obtain ⟨cp,hcp⟩:∃ c,s[i - 1]?=some c:=⟨_,List.getElem?_eq_getElem (by omega)⟩
      by_cases cp46:cp=46
      ·subst cp46
       simp -dsimp (disch:=first | assumption | omega) only [↓AyG,AyB,AyE,AyF,eq_self,Nat.reduceLT,Nat.reduceEqDiff,UInt8.reduceToNat,↓reduceIte,reduceCtorEq,↓AyN,AyX,hc,hcp]
       exact ⟨_,rfl,AzG (fun h=>h.elim h0 fun h=>h.2.2.2.1 ⟨i - 1,hcp,by rw [show i - 1+1=i by omega]; exact hc⟩) _ rfl⟩
      ·have dp:¬ cp.toNat=46:=fun e=>cp46 (UInt8.toNat_inj.1 e)
       simp -dsimp (disch:=first | assumption | omega) only [↓AyG,AyB,AyE,AyF,eq_self,Nat.reduceLT,Nat.reduceEqDiff,UInt8.reduceToNat,↓reduceIte,reduceCtorEq,↓AyN,AyX,hc,hcp,dp]
       exact AyW (s.length+1 - (i+1)) (by omega) (by simp) ⟨f,i+1,rfl,hI.step hc h47 hg (fun j h=>by rw [show j=i - 1 by omega,hcp]; simp [cp46]),rfl,rfl⟩
     have d46:¬ c.toNat=46:=fun e=>c46 (UInt8.toNat_inj.1 e)
     by_cases c123:c=123
     ·subst c123
      by_cases hi0:i=0
      ·subst hi0
       simp -dsimp (disch:=first | assumption | omega) only [↓AyG,AyB,AyE,AyF,eq_self,Nat.reduceLT,Nat.reduceEqDiff,UInt8.reduceToNat,↓reduceIte,reduceCtorEq,↓AyN,AyX,hc]
       exact AyW (s.length+1 - (0+1)) (by omega) (by simp) ⟨f,0+1,rfl,hI.step hc h47 hg (fun j h=>by omega),rfl,rfl⟩
      obtain ⟨cp,hcp⟩:∃ c,s[i - 1]?=some c:=⟨_,List.getElem?_eq_getElem (by omega)⟩
      by_cases cp64:cp=64
      ·subst cp64
       simp -dsimp (disch:=first | assumption | omega) only [↓AyG,AyB,AyE,AyF,eq_self,Nat.reduceLT,Nat.reduceEqDiff,UInt8.reduceToNat,↓reduceIte,reduceCtorEq,↓AyN,AyX,hc,hcp]
       exact ⟨_,rfl,AzG (fun h=>h.elim h0 fun h=>h.2.2.2.2.1 ⟨i - 1,hcp,by rw [show i - 1+1=i by omega]; exact hc⟩) _ rfl⟩
      ·have dp:¬ cp.toNat=64:=fun e=>cp64 (UInt8.toNat_inj.1 e)
       simp -dsimp (disch:=first | assumption | omega) only [↓AyG,AyB,AyE,AyF,eq_self,Nat.reduceLT,Nat.reduceEqDiff,UInt8.reduceToNat,↓reduceIte,reduceCtorEq,↓AyN,AyX,hc,hcp,dp]
       exact AyW (s.length+1 - (i+1)) (by omega) (by simp) ⟨f,i+1,rfl,hI.step hc h47 hg (fun j h=>by rw [show j=i - 1 by omega,hcp]; simp [cp64]),rfl,rfl⟩
     have d123:¬ c.toNat=123:=fun e=>c123 (UInt8.toNat_inj.1 e)
     by_cases hi0:i=0
     ·subst hi0
      simp -dsimp (disch:=first | assumption | omega) only [↓AyG,AyB,AyE,AyF,eq_self,Nat.reduceLT,Nat.reduceEqDiff,↓reduceIte,reduceCtorEq,↓AyN,AyX,hc,d47,g3,g4,g5,g6,g7,g8,g9]
      exact AyW (s.length+1 - (0+1)) (by omega) (by simp) ⟨f,0+1,rfl,hI.step hc h47 hg (fun j h=>by omega),rfl,rfl⟩
     ·simp -dsimp (disch:=first | assumption | omega) only [↓AyG,AyB,AyE,AyF,eq_self,Nat.reduceEqDiff,↓reduceIte,reduceCtorEq,↓AyN,AyX,hc,d46,d47,d123,g3,g4,g5,g6,g7,g8,g9]
      exact AyW (s.length+1 - (i+1)) (by omega) (by simp) ⟨f,i+1,rfl,hI.step hc h47 hg (fun j h=>by simp [c46,c123]),rfl,rfl⟩
    ·have hno:¬ AVD s:=fun h=>h.elim h0 fun h=>by
      have:=h.2.2.2.2.2.1 c (List.mem_of_getElem? hc)
      rw [hg] at this; cases this
     rcases hbad with h | h | rfl | rfl | rfl | rfl | rfl | rfl | rfl
     all_goals
      simp -dsimp (disch:=first | assumption | omega) only [↓AyG,AyB,AyE,AyF,eq_self,Nat.reduceLT,Nat.reduceEqDiff,UInt8.reduceToNat,↓reduceIte,reduceCtorEq,↓AyN,AyX,hc,d47]
      exact ⟨_,rfl,AzG hno _ rfl⟩
  ·obtain ⟨k1,k2,k3,k4,k5⟩:=hI
   have hp:(AzL 47 s).all Az6=true:=by
    rcases k5 with ⟨_,_,h⟩ | ⟨h,_⟩
    ·exact h
    ·omega
   simp -dsimp (disch:=first | assumption | omega) only [↓AyG,AyB,AyE,AyF,eq_self,Nat.reduceEqDiff,↓reduceIte,reduceCtorEq,↓AyN]
   refine ⟨_,rfl,ARh (.inr ⟨by omega,h3,by rw [hcl]; simpa using h4,fun ⟨j,j1,j2⟩ => ?_,fun ⟨j,j1,j2⟩ => ?_,fun c hc => ?_,hp⟩) _ rfl⟩
   ·have:=(List.getElem?_eq_some_iff.1 j2).1
    exact (k4 j (by omega)).1 ⟨j1,j2⟩
   ·have:=(List.getElem?_eq_some_iff.1 j2).1
    exact (k4 j (by omega)).2 ⟨j1,j2⟩
   ·obtain ⟨j,hj,rfl⟩:=List.mem_iff_getElem.1 hc
    exact k3 j _ (by omega) (List.getElem?_eq_getElem hj)
end
section
open Go.RowKit
variable [AyT] [AA7]
theorem A3I (s:List UInt8) (hs:s.length≤4000000):Azg Tryz.prog 41 [ts s] (fun x=>x=tb (nmB s)):=by
 refine (A39 s hs).mono ?_
 rintro x ⟨b,rfl,hb⟩
 rw [←AQQ] at hb
 cases b<;>cases h:nmB s<;>simp_all
theorem A1u {wss:List (List (List UInt8))} (h:∀ ws∈wss,(AFz ws).length≤1000):(AVB wss).length≤1004*wss.length:=by
 induction wss with
 | nil=>simp [AVB]
 | cons w wss ih =>
  have h1:=ih fun x hx=>h x (by simp [hx])
  have h2:=h w (by simp)
  have e:AVB (w::wss)=Azq (AFz w)++AVB wss:=by simp [AVB]
  rw [e,List.length_append,AMU,List.length_cons]; omega
end
section
open Go.RowKit
theorem A5E {k l:List UInt8} {x:TV}:∀ {es:List (List UInt8×TV)},AHE k (AN3 l x es)=if l=k then some x else AHE k es
 | []=>by simp [AN3,AHE]
 | (q,y)::es=>by
  rw [AN3]
  by_cases hq:q=l
  ·subst hq
   rw [if_pos rfl,AHE,AHE]
   by_cases h:q=k<;>simp [h]
  ·rw [if_neg hq,AHE,AHE,A5E]
   by_cases h:q=k
   ·subst h; rw [if_pos rfl,if_neg (fun e=>hq e.symm),if_pos rfl]
   ·rw [if_neg h,if_neg h]
def Cnt (es:List (List UInt8×TV)) (m:List (List UInt8)):Prop:=∀ l,(AHE l es).getD (i64 ((0:Nat):Int))=i64 ((m.count l:Nat):Int)
theorem Cnt.add {es:List (List UInt8×TV)} {m:List (List UInt8)} (h:Cnt es m) (l:List UInt8):Cnt (AN3 l (i64 ((m.count l+1:Nat):Int)) es) (m++[l]):=by
 intro k
 rw [A5E]
 by_cases hk:l=k
 ·subst hk; simp
 ·rw [if_neg hk,h k]; simp [hk]
theorem AXp {k:List UInt8} {x:TV}:∀ {es:List (List UInt8×TV)},(AN3 k x es).length=if AHE k es=none then es.length+1 else es.length
 | []=>by simp [AN3,AHE]
 | (q,y)::es=>by
  rw [AN3,AHE]
  by_cases hq:q=k
  ·subst hq; simp
  ·rw [if_neg hq,if_neg hq,List.length_cons,AXp,List.length_cons]
   split<;>rfl
structure A5q (es:List (List UInt8×TV)) (m:List (List UInt8)):Prop where
 cnt:Cnt es m
 has:∀ l,AHE l es≠none↔l∈m
 le:es.length≤m.length
 nd:es.length=m.length↔m.Nodup
theorem A5q.nil:A5q [] []:=⟨fun l=>by simp [AHE],fun l=>by simp [AHE],by simp,by simp⟩
theorem A5q.add {es:List (List UInt8×TV)} {m:List (List UInt8)} (h:A5q es m) (l:List UInt8):A5q (AN3 l (i64 ((m.count l+1:Nat):Int)) es) (m++[l]):=by
 have hl:=AXp (k:=l) (x:=i64 ((m.count l+1:Nat):Int)) (es:=es)
 refine ⟨h.cnt.add l,fun k => ?_,?_,?_⟩
 ·rw [A5E]
  by_cases hk:l=k
  ·subst hk; simp
  ·rw [if_neg hk,h.has k]; simp [Ne.symm hk]
 ·rw [hl,List.length_append,List.length_singleton]
  have:=h.le
  split<;>omega
 ·rw [hl,List.length_append,List.length_singleton,List.nodup_append]
  by_cases hm:l∈m
  ·rw [if_neg ((h.has l).2 hm)]
   have:=h.le
   constructor
   ·intro e; omega
   ·rintro ⟨_,_,g⟩
    exact absurd rfl (g l hm l (by simp))
  ·have hn:AHE l es=none:=Classical.byContradiction fun k=>hm ((h.has l).1 k)
   rw [if_pos hn]
   have:=h.nd
   constructor
   ·intro e
    refine ⟨this.1 (by omega),by simp,fun a ha b hb => ?_⟩
    rw [List.mem_singleton] at hb
    subst hb
    exact fun e=>hm (e▸ha)
   ·rintro ⟨g,_,_⟩
    have:=this.2 g
    omega
end
section
variable [AyT]
set_option maxRecDepth 100000
def AAq:AyD := .seq (.block 1 (.seq (.ops [po_ 15 (.idxA 41 (.t 11) (.t 13)),po_ 16 (.load true 41 (.t 15)),so_ 9 (.alloc (.agg [.val (.string (str [])),.arr 20 1 [.val (.int .u8 ((0:Nat):Int)),.val (.int .u8 ((0:Nat):Int)),.val (.int .u8 ((0:Nat):Int)),.val (.int .u8 ((0:Nat):Int)),.val (.int .u8 ((0:Nat):Int)),.val (.int .u8 ((0:Nat):Int)),.val (.int .u8 ((0:Nat):Int)),.val (.int .u8 ((0:Nat):Int)),.val (.int .u8 ((0:Nat):Int)),.val (.int .u8 ((0:Nat):Int)),.val (.int .u8 ((0:Nat):Int)),.val (.int .u8 ((0:Nat):Int)),.val (.int .u8 ((0:Nat):Int)),.val (.int .u8 ((0:Nat):Int)),.val (.int .u8 ((0:Nat):Int)),.val (.int .u8 ((0:Nat):Int)),.val (.int .u8 ((0:Nat):Int)),.val (.int .u8 ((0:Nat):Int)),.val (.int .u8 ((0:Nat):Int)),.val (.int .u8 ((0:Nat):Int))],.arr 20 1 [.val (.int .u8 ((0:Nat):Int)),.val (.int .u8 ((0:Nat):Int)),.val (.int .u8 ((0:Nat):Int)),.val (.int .u8 ((0:Nat):Int)),.val (.int .u8 ((0:Nat):Int)),.val (.int .u8 ((0:Nat):Int)),.val (.int .u8 ((0:Nat):Int)),.val (.int .u8 ((0:Nat):Int)),.val (.int .u8 ((0:Nat):Int)),.val (.int .u8 ((0:Nat):Int)),.val (.int .u8 ((0:Nat):Int)),.val (.int .u8 ((0:Nat):Int)),.val (.int .u8 ((0:Nat):Int)),.val (.int .u8 ((0:Nat):Int)),.val (.int .u8 ((0:Nat):Int)),.val (.int .u8 ((0:Nat):Int)),.val (.int .u8 ((0:Nat):Int)),.val (.int .u8 ((0:Nat):Int)),.val (.int .u8 ((0:Nat):Int)),.val (.int .u8 ((0:Nat):Int))]])),⟨none,.s (.store 41 (.t 9) (.t 16)),none⟩] [0,1,2,7,9,11,12,13])
 (.ops [mv_ 17 7,mv_ 18 2,po_ 19 (.load true 41 (.t 9)),so_ 20 (.callv (.t 18) [.t 19]),po_ 21 (.gen (.look .str (.val (.int .i64 ((0:Nat):Int))) false) [.t 17,.t 20]),po_ 22 (.bin 3 .add (.t 21) (ci_ 1)),⟨none,.s (.mupd .str (.t 17) (.t 20) (.t 22)),none⟩] [0,1,2,7,11,12,13])))
 (.ops [po_ 23 (.bin 3 .add (.t 13) (ci_ 1)),mv_ 13 23] [0,1,2,7,11,12,13])
def AAp:AyD := .seq (.cond (.t 14)
 (.skip)
 (.exit 0))
 AAq
def AAm:AyD := .seq (.ops [po_ 14 (.bin 3 .lss (.t 13) (.t 12))] [0,1,2,7,11,12,13,14])
 AAp
def AAg:AyD := .block 0 (.loop [0,1,2,7,11,12,13] AAm)
def AAB:AyD := .seq (.ops [mv_ 24 7,po_ 25 (.gen .lenM [.t 24]),mv_ 26 0,po_ 27 (.lenV (.t 26)),po_ 28 (.bin 3 .eql (.t 25) (.t 27)),mv_ 29 28,⟨some 30,.p (.mov (.t 0)),some ⟨29,true⟩⟩,⟨some 31,.p (.lenV (.t 30)),some ⟨29,true⟩⟩,⟨some 32,.p (.mov (.t 1)),some ⟨29,true⟩⟩,⟨some 33,.p (.bin 3 .leq (.t 31) (.t 32)),some ⟨29,true⟩⟩,po_ 34 (.pick (.t 29) (.t 33) (.c (.bool false))),mv_ 6 34] [6])
 (.ret)
def AAc:AyD := .seq (.seq (.ops [mv_ 11 0,po_ 12 (.lenV (.t 11)),po_ 13 (.mov (ci_ 0))] [0,1,2,7,11,12,13])
 AAg)
 AAB
def AAi:AyD := .seq (.ops [so_ 10 (.mkm .str none),mv_ 7 10] [0,1,2,7])
 AAc
def AAY:AyD := .seq (.ops [po_ 6 (.mov (.c (.bool false)))] [0,1,2])
 AAi
def AAX:List VR:=[.tmp 6]
theorem ADW:Tryz.f44.body.bind (trC Tryz.prog Tryz.f44.ntmps)=some (er AAY):=by kernel_rfl
theorem AD1:trR Tryz.prog Tryz.f44.results.toList=some AAX:=by kernel_rfl
def ABU:=AyA AAq.eq_1
def Azd:=AyA AAp.eq_1
def Azf:=AyA AAm.eq_1
def ABD:=AyA AAg.eq_1
def Azv:=AyA AAB.eq_1
def ABW:=AyA AAc.eq_1
def ABP:=AyA AAi.eq_1
def AC8:=AyA AAY.eq_1
theorem AzD {K:TV→Prop} {e:Env} {H:List Ob}:res AAX e H K=res [.tmp 6] e H K:=Ayz rfl
def ADP:=AzJ 35 Tryz.func44 ADW AD1 rfl
def AF7:AyD := .seq (.ops [so_ 1 (.box (.t 0)),po_ 2 (.mov (.c (.string (str []))))] [1])
 (.seq (.ops [po_ 3 (.fieldA 0 0 (.t 1)),po_ 4 (.load false 1 (.t 3)),mv_ 2 4] [2])
 (.ret))
def AFU:List VR:=[.tmp 2]
theorem ANQ:Tryz.f45.body.bind (trC Tryz.prog Tryz.f45.ntmps)=some (er AF7):=by kernel_rfl
theorem AM5:trR Tryz.prog Tryz.f45.results.toList=some AFU:=by kernel_rfl
def AK7:=AyA AF7.eq_1
theorem AKS {K:TV→Prop} {e:Env} {H:List Ob}:res AFU e H K=res [.tmp 2] e H K:=Ayz rfl
def ANL:=(And.intro @AK7 @AKS)
def ALJ:=AzJ 5 Tryz.func45 ANQ AM5 rfl
def AFo:AyD := .seq (.ops [mv_ 21 6,po_ 22 (.fieldA 0 0 (.t 8)),po_ 23 (.load false 1 (.t 22)),so_ 24 (.call 40 [.t 23]),so_ 25 (.call 27 [.t 21,.t 24])] [1,6,8,15,16,17])
 (.draw 9 [mv_ 26 6,po_ 27 (.fieldA 1 1 (.t 8)),po_ 28 (.load true 20 (.t 27)),po_ 30 (.fieldA 2 21 (.t 8)),po_ 31 (.load true 20 (.t 30)),po_ 33 (.fieldA 0 0 (.t 8)),po_ 34 (.load false 1 (.t 33)),so_ 29 (.call 30 [.t 28]),so_ 32 (.call 30 [.t 31]),⟨some 35,.s (.bslice 1 3 (.val (.string (str []))) [⟨0,.t 29⟩,⟨1,.t 32⟩,⟨2,.t 34⟩]),none⟩,so_ 36 (.call 29 [.t 26,.t 35])] [1,6,15,16,17])
def AEH:AyD := .seq (.block 1 (.seq (.ops [po_ 19 (.idxA 41 (.t 15) (.t 17)),po_ 20 (.load true 41 (.t 19)),so_ 8 (.alloc (.agg [.val (.string (str [])),.arr 20 1 [.val (.int .u8 ((0:Nat):Int)),.val (.int .u8 ((0:Nat):Int)),.val (.int .u8 ((0:Nat):Int)),.val (.int .u8 ((0:Nat):Int)),.val (.int .u8 ((0:Nat):Int)),.val (.int .u8 ((0:Nat):Int)),.val (.int .u8 ((0:Nat):Int)),.val (.int .u8 ((0:Nat):Int)),.val (.int .u8 ((0:Nat):Int)),.val (.int .u8 ((0:Nat):Int)),.val (.int .u8 ((0:Nat):Int)),.val (.int .u8 ((0:Nat):Int)),.val (.int .u8 ((0:Nat):Int)),.val (.int .u8 ((0:Nat):Int)),.val (.int .u8 ((0:Nat):Int)),.val (.int .u8 ((0:Nat):Int)),.val (.int .u8 ((0:Nat):Int)),.val (.int .u8 ((0:Nat):Int)),.val (.int .u8 ((0:Nat):Int)),.val (.int .u8 ((0:Nat):Int))],.arr 20 1 [.val (.int .u8 ((0:Nat):Int)),.val (.int .u8 ((0:Nat):Int)),.val (.int .u8 ((0:Nat):Int)),.val (.int .u8 ((0:Nat):Int)),.val (.int .u8 ((0:Nat):Int)),.val (.int .u8 ((0:Nat):Int)),.val (.int .u8 ((0:Nat):Int)),.val (.int .u8 ((0:Nat):Int)),.val (.int .u8 ((0:Nat):Int)),.val (.int .u8 ((0:Nat):Int)),.val (.int .u8 ((0:Nat):Int)),.val (.int .u8 ((0:Nat):Int)),.val (.int .u8 ((0:Nat):Int)),.val (.int .u8 ((0:Nat):Int)),.val (.int .u8 ((0:Nat):Int)),.val (.int .u8 ((0:Nat):Int)),.val (.int .u8 ((0:Nat):Int)),.val (.int .u8 ((0:Nat):Int)),.val (.int .u8 ((0:Nat):Int)),.val (.int .u8 ((0:Nat):Int))]])),⟨none,.s (.store 41 (.t 8) (.t 20)),none⟩] [1,6,8,15,16,17])
 AFo))
 (.ops [po_ 37 (.bin 3 .add (.t 17) (ci_ 1)),mv_ 17 37] [1,6,15,16,17])
def AFu:AyD := .seq (.cond (.t 18)
 (.skip)
 (.exit 0))
 AEH
def AFm:AyD := .seq (.ops [po_ 18 (.bin 3 .lss (.t 17) (.t 16))] [1,6,15,16,17,18])
 AFu
def AE4:AyD := .block 0 (.loop [1,6,15,16,17] AFm)
def AFt:AyD := .seq (.ops [mv_ 40 6,mv_ 41 6,po_ 42 (.nilc (.t 41)),po_ 43 (.fieldA 0 0 (.t 42)),po_ 44 (.load false 1 (.t 43)),mv_ 45 1,so_ 46 (.app 1 1 5 (.t 44) (.t 45)),po_ 47 (.nilc (.t 40)),po_ 48 (.fieldA 0 0 (.t 47)),⟨none,.s (.store 1 (.t 48) (.t 46)),none⟩] [6])
 (.seq (.ops [mv_ 49 6,so_ 50 (.call 32 [.t 49]),po_ 51 (.ext 0 (.t 50)),po_ 52 (.ext 1 (.t 50)),mv_ 4 51,mv_ 5 52] [4,5])
 (.ret))
def AEM:AyD := .seq (.ops [mv_ 38 6,so_ 39 (.call 31 [.t 38])] [1,6])
 AFt
def AEN:AyD := .seq (.seq (.ops [mv_ 15 0,po_ 16 (.lenV (.t 15)),po_ 17 (.mov (ci_ 0))] [1,6,15,16,17])
 AE4)
 AEM
def AEF:AyD := .seq (.ops [mv_ 11 6,mv_ 12 0,so_ 13 (.call 44 [.t 12,.c (.int .i64 ((500:Nat):Int)),.c (.func (.func 45) #[] #[])]),so_ 14 (.call 27 [.t 11,.t 13])] [0,1,6])
 AEN
def AEc:AyD := .seq (.ops [po_ 9 (.build [.val (.slice none 0 0),.val (.bool false)] [1,1] []),so_ 10 (.box (.t 9)),mv_ 6 10] [0,1,6])
 AEF
def AIG:AyD := .seq (.ops [po_ 4 (.mov (.c (.slice none 0 0))),po_ 5 (.mov (.c .nilIface))] [0,1])
 AEc
def AH8:List VR:=[.tmp 4,.tmp 5]
theorem APJ:Tryz.f18.body.bind (trC Tryz.prog Tryz.f18.ntmps)=some (er AIG):=by kernel_rfl
theorem AP3:trR Tryz.prog Tryz.f18.results.toList=some AH8:=by kernel_rfl
def AKr:=AyA AFo.eq_1
def AJa:=AyA AEH.eq_1
def ADU:=AyA AFu.eq_1
def ADR:=AyA AFm.eq_1
def AKp:=AyA AE4.eq_1
def ADQ:=AyA AFt.eq_1
def AJs:=AyA AEM.eq_1
def AJ6:=AyA AEN.eq_1
def AJR:=AyA AEF.eq_1
def AI5:=AyA AEc.eq_1
def AMR:=AyA AIG.eq_1
theorem ACe {K:TV→Prop} {e:Env} {H:List Ob}:res AH8 e H K=res [.tmp 4,.tmp 5] e H K:=Ayz rfl
def AOB:=AzJ 53 Tryz.func18 APJ AP3 rfl
def AFO:AyD := .seq (.seq (.ops [mv_ 56 12,po_ 57 (.eqN 1 (.t 56) (.c .nilIface) true),mv_ 58 57,⟨some 59,.p (.mov (.t 14)),some ⟨58,false⟩⟩,⟨some 60,.p (.eqN 1 (.t 59) (.c .nilIface) true),some ⟨58,false⟩⟩,po_ 61 (.pick (.t 58) (.c (.bool true)) (.t 60))] [0,5,6,10,11,13,61])
 (.cond (.t 61)
 (.seq (.ops [mv_ 62 6,so_ 63 (.call 80 [.t 62]),po_ 2 (.mov (.c (.slice none 0 0))),po_ 3 (.mov (.c (.slice none 0 0))),mv_ 4 63] [2,3,4])
  (.ret))
 (.skip)))
 (.draw 5 [mv_ 64 5,mv_ 65 10,po_ 66 (.idxA 1 (.t 65) (ci_ 2)),po_ 67 (.load false 1 (.t 66)),po_ 68 (.load true 20 (.t 11)),po_ 69 (.load true 20 (.t 13)),⟨some 70,.p (.build [.val (.string (str [])),.arr 20 1 [.val (.int .u8 ((0:Nat):Int)),.val (.int .u8 ((0:Nat):Int)),.val (.int .u8 ((0:Nat):Int)),.val (.int .u8 ((0:Nat):Int)),.val (.int .u8 ((0:Nat):Int)),.val (.int .u8 ((0:Nat):Int)),.val (.int .u8 ((0:Nat):Int)),.val (.int .u8 ((0:Nat):Int)),.val (.int .u8 ((0:Nat):Int)),.val (.int .u8 ((0:Nat):Int)),.val (.int .u8 ((0:Nat):Int)),.val (.int .u8 ((0:Nat):Int)),.val (.int .u8 ((0:Nat):Int)),.val (.int .u8 ((0:Nat):Int)),.val (.int .u8 ((0:Nat):Int)),.val (.int .u8 ((0:Nat):Int)),.val (.int .u8 ((0:Nat):Int)),.val (.int .u8 ((0:Nat):Int)),.val (.int .u8 ((0:Nat):Int)),.val (.int .u8 ((0:Nat):Int))],.arr 20 1 [.val (.int .u8 ((0:Nat):Int)),.val (.int .u8 ((0:Nat):Int)),.val (.int .u8 ((0:Nat):Int)),.val (.int .u8 ((0:Nat):Int)),.val (.int .u8 ((0:Nat):Int)),.val (.int .u8 ((0:Nat):Int)),.val (.int .u8 ((0:Nat):Int)),.val (.int .u8 ((0:Nat):Int)),.val (.int .u8 ((0:Nat):Int)),.val (.int .u8 ((0:Nat):Int)),.val (.int .u8 ((0:Nat):Int)),.val (.int .u8 ((0:Nat):Int)),.val (.int .u8 ((0:Nat):Int)),.val (.int .u8 ((0:Nat):Int)),.val (.int .u8 ((0:Nat):Int)),.val (.int .u8 ((0:Nat):Int)),.val (.int .u8 ((0:Nat):Int)),.val (.int .u8 ((0:Nat):Int)),.val (.int .u8 ((0:Nat):Int)),.val (.int .u8 ((0:Nat):Int))]] [1,20,20] [⟨0,.t 67⟩,⟨1,.t 68⟩,⟨2,.t 69⟩]),none⟩,⟨some 71,.s (.bslice 41 1 (.agg [.val (.string (str [])),.arr 20 1 [.val (.int .u8 ((0:Nat):Int)),.val (.int .u8 ((0:Nat):Int)),.val (.int .u8 ((0:Nat):Int)),.val (.int .u8 ((0:Nat):Int)),.val (.int .u8 ((0:Nat):Int)),.val (.int .u8 ((0:Nat):Int)),.val (.int .u8 ((0:Nat):Int)),.val (.int .u8 ((0:Nat):Int)),.val (.int .u8 ((0:Nat):Int)),.val (.int .u8 ((0:Nat):Int)),.val (.int .u8 ((0:Nat):Int)),.val (.int .u8 ((0:Nat):Int)),.val (.int .u8 ((0:Nat):Int)),.val (.int .u8 ((0:Nat):Int)),.val (.int .u8 ((0:Nat):Int)),.val (.int .u8 ((0:Nat):Int)),.val (.int .u8 ((0:Nat):Int)),.val (.int .u8 ((0:Nat):Int)),.val (.int .u8 ((0:Nat):Int)),.val (.int .u8 ((0:Nat):Int))],.arr 20 1 [.val (.int .u8 ((0:Nat):Int)),.val (.int .u8 ((0:Nat):Int)),.val (.int .u8 ((0:Nat):Int)),.val (.int .u8 ((0:Nat):Int)),.val (.int .u8 ((0:Nat):Int)),.val (.int .u8 ((0:Nat):Int)),.val (.int .u8 ((0:Nat):Int)),.val (.int .u8 ((0:Nat):Int)),.val (.int .u8 ((0:Nat):Int)),.val (.int .u8 ((0:Nat):Int)),.val (.int .u8 ((0:Nat):Int)),.val (.int .u8 ((0:Nat):Int)),.val (.int .u8 ((0:Nat):Int)),.val (.int .u8 ((0:Nat):Int)),.val (.int .u8 ((0:Nat):Int)),.val (.int .u8 ((0:Nat):Int)),.val (.int .u8 ((0:Nat):Int)),.val (.int .u8 ((0:Nat):Int)),.val (.int .u8 ((0:Nat):Int)),.val (.int .u8 ((0:Nat):Int))]]) [⟨0,.t 70⟩]),none⟩,so_ 72 (.app 41 56 95 (.t 64) (.t 71)),mv_ 5 72] [0,5,6])
def AFJ:AyD := .seq (.ops [mv_ 50 10,po_ 51 (.idxA 1 (.t 50) (ci_ 1)),po_ 52 (.load false 1 (.t 51)),so_ 53 (.call 65 [.t 52]),mv_ 49 53,po_ 54 (.ext 0 (.t 49)),po_ 55 (.ext 1 (.t 49)),so_ 13 (.alloc (.arr 20 1 [.val (.int .u8 ((0:Nat):Int)),.val (.int .u8 ((0:Nat):Int)),.val (.int .u8 ((0:Nat):Int)),.val (.int .u8 ((0:Nat):Int)),.val (.int .u8 ((0:Nat):Int)),.val (.int .u8 ((0:Nat):Int)),.val (.int .u8 ((0:Nat):Int)),.val (.int .u8 ((0:Nat):Int)),.val (.int .u8 ((0:Nat):Int)),.val (.int .u8 ((0:Nat):Int)),.val (.int .u8 ((0:Nat):Int)),.val (.int .u8 ((0:Nat):Int)),.val (.int .u8 ((0:Nat):Int)),.val (.int .u8 ((0:Nat):Int)),.val (.int .u8 ((0:Nat):Int)),.val (.int .u8 ((0:Nat):Int)),.val (.int .u8 ((0:Nat):Int)),.val (.int .u8 ((0:Nat):Int)),.val (.int .u8 ((0:Nat):Int)),.val (.int .u8 ((0:Nat):Int))])),⟨none,.s (.store 20 (.t 13) (.t 54)),none⟩,mv_ 14 55] [0,5,6,10,11,12,13,14])
 AFO
def AGe:AyD := .seq (.ops [mv_ 43 10,po_ 44 (.idxA 1 (.t 43) (ci_ 0)),po_ 45 (.load false 1 (.t 44)),so_ 46 (.call 65 [.t 45]),mv_ 42 46,po_ 47 (.ext 0 (.t 42)),po_ 48 (.ext 1 (.t 42)),so_ 11 (.alloc (.arr 20 1 [.val (.int .u8 ((0:Nat):Int)),.val (.int .u8 ((0:Nat):Int)),.val (.int .u8 ((0:Nat):Int)),.val (.int .u8 ((0:Nat):Int)),.val (.int .u8 ((0:Nat):Int)),.val (.int .u8 ((0:Nat):Int)),.val (.int .u8 ((0:Nat):Int)),.val (.int .u8 ((0:Nat):Int)),.val (.int .u8 ((0:Nat):Int)),.val (.int .u8 ((0:Nat):Int)),.val (.int .u8 ((0:Nat):Int)),.val (.int .u8 ((0:Nat):Int)),.val (.int .u8 ((0:Nat):Int)),.val (.int .u8 ((0:Nat):Int)),.val (.int .u8 ((0:Nat):Int)),.val (.int .u8 ((0:Nat):Int)),.val (.int .u8 ((0:Nat):Int)),.val (.int .u8 ((0:Nat):Int)),.val (.int .u8 ((0:Nat):Int)),.val (.int .u8 ((0:Nat):Int))])),⟨none,.s (.store 20 (.t 11) (.t 47)),none⟩,mv_ 12 48] [0,5,6,10,11,12])
 AFJ
def AGb:AyD := .seq (.seq (.ops [mv_ 37 10,po_ 38 (.lenV (.t 37)),po_ 39 (.bin 3 .neq (.t 38) (ci_ 3))] [0,5,6,10,39])
 (.cond (.t 39)
 (.seq (.ops [mv_ 40 6,so_ 41 (.call 80 [.t 40]),po_ 2 (.mov (.c (.slice none 0 0))),po_ 3 (.mov (.c (.slice none 0 0))),mv_ 4 41] [2,3,4])
  (.ret))
 (.skip)))
 AGe
def AFW:AyD := .seq (.ops [mv_ 33 7,po_ 34 (.b2s (.t 33)),so_ 35 (.call 79 [.t 34,.c (.string (str [10]))]),so_ 36 (.call 78 [.t 35,.c (.string (str [32]))]),mv_ 10 36] [0,5,6,10])
 AGb
def AFP:AyD := .seq (.seq (.ops [mv_ 30 7,po_ 31 (.lenV (.t 30)),po_ 32 (.bin 3 .eql (.t 31) (ci_ 0))] [0,5,6,7,32])
 (.cond (.t 32)
 (.exit 0)
 (.skip)))
 AFW
def AFT:AyD := .seq (.ops [mv_ 29 8,mv_ 6 29] [0,5,6,7])
 AFP
def AGf:AyD := .seq (.seq (.ops [mv_ 26 9,po_ 27 (.eqN 1 (.t 26) (.c .nilIface) true)] [0,5,7,8,9,27])
 (.cond (.t 27)
 (.seq (.ops [mv_ 28 9,po_ 2 (.mov (.c (.slice none 0 0))),po_ 3 (.mov (.c (.slice none 0 0))),mv_ 4 28] [2,3,4])
  (.ret))
 (.skip)))
 AFT
def AFK:AyD := .block 1 (.seq (.ops [mv_ 21 6,so_ 22 (.call 77 [.t 21]),mv_ 20 22,po_ 23 (.ext 0 (.t 20)),po_ 24 (.ext 1 (.t 20)),po_ 25 (.ext 2 (.t 20)),mv_ 7 23,mv_ 8 24,mv_ 9 25] [0,5,7,8,9])
 AGf)
def AE3:AyD := .seq (.seq (.ops [mv_ 81 0,mv_ 82 16,mv_ 83 17,so_ 84 (.call 66 [.t 81,.t 82,.t 83]),mv_ 18 84] [5,15,18])
 (.seq (.ops [mv_ 85 18,po_ 86 (.eqN 1 (.t 85) (.c .nilIface) true)] [5,15,18,86])
 (.cond (.t 86)
 (.seq (.ops [mv_ 87 18,po_ 2 (.mov (.c (.slice none 0 0))),po_ 3 (.mov (.c (.slice none 0 0))),mv_ 4 87] [2,3,4])
  (.ret))
 (.skip))))
 (.seq (.ops [mv_ 88 5,mv_ 89 15,mv_ 2 88,mv_ 3 89,po_ 4 (.mov (.c .nilIface))] [2,3,4])
 (.ret))
def AEG:AyD := .seq (.ops [mv_ 76 5,mv_ 77 15,so_ 78 (.call 18 [.t 76,.t 77]),mv_ 75 78,po_ 79 (.ext 0 (.t 75)),po_ 80 (.ext 1 (.t 75)),mv_ 16 79,mv_ 17 80] [0,5,15,16,17])
 AE3
def AE9:AyD := .seq (.ops [mv_ 73 6,so_ 74 (.call 81 [.t 73]),mv_ 15 74] [0,5,15])
 AEG
def AEK:AyD := .seq (.block 0 (.own 5 41 (.loop [0,5,6] AFK)))
 AE9
def AFj:AyD := .seq (.ops [mv_ 19 0,mv_ 6 19] [0,5,6])
 AEK
def AFk:AyD := .seq (.ops [po_ 5 (.mov (.c (.slice none 0 0)))] [0,5])
 AFj
def AKh:AyD := .seq (.ops [po_ 2 (.mov (.c (.slice none 0 0))),po_ 3 (.mov (.c (.slice none 0 0))),po_ 4 (.mov (.c .nilIface))] [0])
 AFk
def AJr:List VR:=[.tmp 2,.tmp 3,.tmp 4]
theorem AQ6:Tryz.f46.body.bind (trC Tryz.prog Tryz.f46.ntmps)=some (er AKh):=by kernel_rfl
theorem AQE:trR Tryz.prog Tryz.f46.results.toList=some AJr:=by kernel_rfl
def ABk:=AyA AFO.eq_1
def AKN:=AyA AFJ.eq_1
def AKX:=AyA AGe.eq_1
def AEl:=AyA AGb.eq_1
def AKO:=AyA AFW.eq_1
def AD7:=AyA AFP.eq_1
def AEp:=AyA AFT.eq_1
def ABl:=AyA AGf.eq_1
def ALd:=AyA AFK.eq_1
def Az4:=AyA AE3.eq_1
def ADq:=AyA AEG.eq_1
def AJP:=AyA AE9.eq_1
def AJm:=AyA AEK.eq_1
def AKs:=AyA AFj.eq_1
def AKq:=AyA AFk.eq_1
def AOC:=AyA AKh.eq_1
theorem AyU {K:TV→Prop} {e:Env} {H:List Ob}:res AJr e H K=res [.tmp 2,.tmp 3,.tmp 4] e H K:=Ayz rfl
def AP9:=AzJ 90 Tryz.func46 AQ6 AQE rfl
def AIL:AyD := .block 1 (.seq (.ops [mv_ 7 0,so_ 8 (.call 77 [.t 7]),mv_ 6 8,po_ 9 (.ext 0 (.t 6)),po_ 10 (.ext 1 (.t 6)),po_ 11 (.ext 2 (.t 6)),mv_ 3 9,mv_ 4 10,mv_ 5 11] [3,4,5])
 (.seq (.seq (.ops [mv_ 12 5,po_ 13 (.eqN 1 (.t 12) (.c .nilIface) true)] [3,4,5,13])
 (.cond (.t 13)
 (.seq (.ops [mv_ 14 5,mv_ 2 14] [2])
  (.ret))
 (.skip)))
 (.seq (.seq (.ops [mv_ 15 3,po_ 16 (.lenV (.t 15)),po_ 17 (.bin 3 .eql (.t 16) (ci_ 0))] [4,17])
 (.cond (.t 17)
 (.seq (.ops [po_ 18 (.iface 33 (ci_ 111)),mv_ 2 18] [2])
  (.ret))
 (.skip)))
 (.ops [mv_ 19 4,mv_ 0 19] [0]))))
def AIH:AyD := .block 0 (.loop [0] AIL)
def ANH:AyD := .seq (.ops [po_ 2 (.mov (.c .nilIface))] [0])
 AIH
def ANd:List VR:=[.tmp 2]
theorem ATJ:Tryz.f80.body.bind (trC Tryz.prog Tryz.f80.ntmps)=some (er ANH):=by kernel_rfl
theorem ASJ:trR Tryz.prog Tryz.f80.results.toList=some ANd:=by kernel_rfl
def ANA:=AyA AIL.eq_1
def AMv:=AyA AIH.eq_1
def AQj:=AyA ANH.eq_1
theorem AKz {K:TV→Prop} {e:Env} {H:List Ob}:res ANd e H K=res [.tmp 2] e H K:=Ayz rfl
def ARs:=AzJ 20 Tryz.func80 ATJ ASJ rfl
def AEm:AyD := .seq (.block 3 (.seq (.draw 5 [mv_ 33 0,mv_ 34 9,po_ 35 (.idxA 41 (.t 33) (.t 34)),po_ 36 (.fieldA 0 0 (.t 35)),po_ 37 (.load false 1 (.t 36)),mv_ 38 0,mv_ 39 7,po_ 40 (.idxA 41 (.t 38) (.t 39)),po_ 41 (.fieldA 0 0 (.t 40)),po_ 42 (.load false 1 (.t 41)),po_ 43 (.bin 9 .eql (.t 37) (.t 42))] [0,1,6,7,9,43])
 (.cond (.t 43)
 (.seq (.ops [po_ 4 (.mov (.c (.slice none 0 0))),po_ 5 (.mov (ci_ 111))] [4,5])
  (.ret))
 (.skip))))
 (.ops [mv_ 31 9,po_ 32 (.bin 3 .add (.t 31) (ci_ 1)),mv_ 9 32] [0,1,6,7,9])
def ABm:AyD := .seq (.seq (.ops [mv_ 28 9,mv_ 29 7,po_ 30 (.bin 3 .lss (.t 28) (.t 29))] [0,1,6,7,9,30])
 (.cond (.t 30)
 (.skip)
 (.exit 2)))
 AEm
def AEb:AyD := .block 2 (.loop [0,1,6,7,9] ABm)
def AEh:AyD := .seq (.draw 20 [mv_ 44 0,mv_ 45 7,po_ 46 (.idxA 41 (.t 44) (.t 45)),po_ 47 (.fieldA 1 1 (.t 46)),po_ 48 (.load true 20 (.t 47)),so_ 49 (.call 35 [.t 48]),po_ 50 (.bin 9 .add (.t 49) (.c (.string (str [32])))),mv_ 51 0,mv_ 52 7,po_ 53 (.idxA 41 (.t 51) (.t 52)),po_ 54 (.fieldA 2 21 (.t 53)),po_ 55 (.load true 20 (.t 54)),so_ 56 (.call 35 [.t 55]),po_ 57 (.bin 9 .add (.t 50) (.t 56)),po_ 58 (.bin 9 .add (.t 57) (.c (.string (str [32])))),mv_ 59 0,mv_ 60 7,po_ 61 (.idxA 41 (.t 59) (.t 60)),po_ 62 (.fieldA 0 0 (.t 61)),po_ 63 (.load false 1 (.t 62)),po_ 64 (.bin 9 .add (.t 58) (.t 63)),so_ 65 (.call 34 [.t 64]),mv_ 10 65] [0,1,6,7,10])
 (.ops [mv_ 66 6,mv_ 67 10,so_ 68 (.app 1 1 5 (.t 66) (.t 67)),mv_ 6 68] [0,1,6,7])
def AEa:AyD := .seq (.seq (.ops [po_ 9 (.mov (ci_ 0))] [0,1,6,7,9])
 AEb)
 AEh
def AEd:AyD := .seq (.seq (.ops [mv_ 26 8,po_ 27 (.un .not (.t 26))] [0,1,6,7,27])
 (.cond (.t 27)
 (.seq (.ops [po_ 4 (.mov (.c (.slice none 0 0))),po_ 5 (.mov (ci_ 111))] [4,5])
  (.ret))
 (.skip)))
 AEa
def AEn:AyD := .ops [mv_ 18 7,po_ 19 (.bin 3 .add (.t 18) (ci_ 1)),mv_ 7 19] [0,1,6,7]
def AEk:AyD := .seq (.block 1 (.seq (.ops [mv_ 20 0,mv_ 21 7,po_ 22 (.idxA 41 (.t 20) (.t 21)),po_ 23 (.fieldA 0 0 (.t 22)),po_ 24 (.load false 1 (.t 23)),so_ 25 (.call 41 [.t 24]),mv_ 8 25] [0,1,6,7,8])
 AEd))
 AEn
def AEi:AyD := .seq (.seq (.ops [mv_ 14 7,mv_ 15 0,po_ 16 (.lenV (.t 15)),po_ 17 (.bin 3 .lss (.t 14) (.t 16))] [0,1,6,7,17])
 (.cond (.t 17)
 (.skip)
 (.exit 0)))
 AEk
def ADV:AyD := .block 0 (.own 6 1 (.loop [0,1,6,7] AEi))
def ADL:AyD := .seq (.ops [mv_ 69 6,so_ 70 (.appS 5 (.t 69) (.c (.string (str [48,48,48,48])))),mv_ 6 70] [1,6])
 (.seq (.ops [mv_ 71 6,mv_ 72 1,so_ 73 (.app 1 1 5 (.t 71) (.t 72)),mv_ 4 73,po_ 5 (.mov (ci_ 0))] [4,5])
 (.ret))
def ADt:AyD := .seq (.seq (.ops [po_ 7 (.mov (ci_ 0))] [0,1,6,7])
 ADV)
 ADL
def ADC:AyD := .seq (.seq (.ops [mv_ 11 0,po_ 12 (.lenV (.t 11)),po_ 13 (.bin 3 .gtr (.t 12) (ci_ 500))] [0,1,6,13])
 (.cond (.t 13)
 (.seq (.ops [po_ 4 (.mov (.c (.slice none 0 0))),po_ 5 (.mov (ci_ 111))] [4,5])
  (.ret))
 (.skip)))
 ADt
def ADE:AyD := .seq (.ops [po_ 6 (.mov (.c (.slice none 0 0)))] [0,1,6])
 ADC
def AGJ:AyD := .seq (.ops [po_ 4 (.mov (.c (.slice none 0 0))),po_ 5 (.mov (ci_ 0))] [0,1])
 ADE
def ADe:List VR:=[.tmp 4,.tmp 5]
theorem AN8:Tryz.f21.body.bind (trC Tryz.prog Tryz.f21.ntmps)=some (er AGJ):=by kernel_rfl
theorem AOj:trR Tryz.prog Tryz.f21.results.toList=some ADe:=by kernel_rfl
def ACB:=AyA AEm.eq_1
def AA4:=AyA ABm.eq_1
def AIZ:=AyA AEb.eq_1
def AIS:=AyA AEh.eq_1
def AIX:=AyA AEa.eq_1
def ACA:=AyA AEd.eq_1
def AIW:=AyA AEn.eq_1
def AI7:=AyA AEk.eq_1
def ACC:=AyA AEi.eq_1
def AHI:=AyA ADV.eq_1
def AHT:=AyA ADL.eq_1
def AHL:=AyA ADt.eq_1
def ACa:=AyA ADC.eq_1
def ACm:=AyA ADE.eq_1
def AFb:=AyA AGJ.eq_1
theorem AEZ {K:TV→Prop} {e:Env} {H:List Ob}:res ADe e H K=res [.tmp 4,.tmp 5] e H K:=Ayz rfl
def ANU:=AzJ 74 Tryz.func21 AN8 AOj rfl
def AFi:AyD := .draw 5 [mv_ 53 5,mv_ 54 10,po_ 55 (.idxA 1 (.t 54) (ci_ 2)),po_ 56 (.load false 1 (.t 55)),po_ 57 (.load true 20 (.t 11)),po_ 58 (.load true 20 (.t 13)),⟨some 59,.p (.build [.val (.string (str [])),.arr 20 1 [.val (.int .u8 ((0:Nat):Int)),.val (.int .u8 ((0:Nat):Int)),.val (.int .u8 ((0:Nat):Int)),.val (.int .u8 ((0:Nat):Int)),.val (.int .u8 ((0:Nat):Int)),.val (.int .u8 ((0:Nat):Int)),.val (.int .u8 ((0:Nat):Int)),.val (.int .u8 ((0:Nat):Int)),.val (.int .u8 ((0:Nat):Int)),.val (.int .u8 ((0:Nat):Int)),.val (.int .u8 ((0:Nat):Int)),.val (.int .u8 ((0:Nat):Int)),.val (.int .u8 ((0:Nat):Int)),.val (.int .u8 ((0:Nat):Int)),.val (.int .u8 ((0:Nat):Int)),.val (.int .u8 ((0:Nat):Int)),.val (.int .u8 ((0:Nat):Int)),.val (.int .u8 ((0:Nat):Int)),.val (.int .u8 ((0:Nat):Int)),.val (.int .u8 ((0:Nat):Int))],.arr 20 1 [.val (.int .u8 ((0:Nat):Int)),.val (.int .u8 ((0:Nat):Int)),.val (.int .u8 ((0:Nat):Int)),.val (.int .u8 ((0:Nat):Int)),.val (.int .u8 ((0:Nat):Int)),.val (.int .u8 ((0:Nat):Int)),.val (.int .u8 ((0:Nat):Int)),.val (.int .u8 ((0:Nat):Int)),.val (.int .u8 ((0:Nat):Int)),.val (.int .u8 ((0:Nat):Int)),.val (.int .u8 ((0:Nat):Int)),.val (.int .u8 ((0:Nat):Int)),.val (.int .u8 ((0:Nat):Int)),.val (.int .u8 ((0:Nat):Int)),.val (.int .u8 ((0:Nat):Int)),.val (.int .u8 ((0:Nat):Int)),.val (.int .u8 ((0:Nat):Int)),.val (.int .u8 ((0:Nat):Int)),.val (.int .u8 ((0:Nat):Int)),.val (.int .u8 ((0:Nat):Int))]] [1,20,20] [⟨0,.t 56⟩,⟨1,.t 57⟩,⟨2,.t 58⟩]),none⟩,⟨some 60,.s (.bslice 41 1 (.agg [.val (.string (str [])),.arr 20 1 [.val (.int .u8 ((0:Nat):Int)),.val (.int .u8 ((0:Nat):Int)),.val (.int .u8 ((0:Nat):Int)),.val (.int .u8 ((0:Nat):Int)),.val (.int .u8 ((0:Nat):Int)),.val (.int .u8 ((0:Nat):Int)),.val (.int .u8 ((0:Nat):Int)),.val (.int .u8 ((0:Nat):Int)),.val (.int .u8 ((0:Nat):Int)),.val (.int .u8 ((0:Nat):Int)),.val (.int .u8 ((0:Nat):Int)),.val (.int .u8 ((0:Nat):Int)),.val (.int .u8 ((0:Nat):Int)),.val (.int .u8 ((0:Nat):Int)),.val (.int .u8 ((0:Nat):Int)),.val (.int .u8 ((0:Nat):Int)),.val (.int .u8 ((0:Nat):Int)),.val (.int .u8 ((0:Nat):Int)),.val (.int .u8 ((0:Nat):Int)),.val (.int .u8 ((0:Nat):Int))],.arr 20 1 [.val (.int .u8 ((0:Nat):Int)),.val (.int .u8 ((0:Nat):Int)),.val (.int .u8 ((0:Nat):Int)),.val (.int .u8 ((0:Nat):Int)),.val (.int .u8 ((0:Nat):Int)),.val (.int .u8 ((0:Nat):Int)),.val (.int .u8 ((0:Nat):Int)),.val (.int .u8 ((0:Nat):Int)),.val (.int .u8 ((0:Nat):Int)),.val (.int .u8 ((0:Nat):Int)),.val (.int .u8 ((0:Nat):Int)),.val (.int .u8 ((0:Nat):Int)),.val (.int .u8 ((0:Nat):Int)),.val (.int .u8 ((0:Nat):Int)),.val (.int .u8 ((0:Nat):Int)),.val (.int .u8 ((0:Nat):Int)),.val (.int .u8 ((0:Nat):Int)),.val (.int .u8 ((0:Nat):Int)),.val (.int .u8 ((0:Nat):Int)),.val (.int .u8 ((0:Nat):Int))]]) [⟨0,.t 59⟩]),none⟩,so_ 61 (.app 41 56 98 (.t 53) (.t 60)),mv_ 5 61] [0,5,6]
def AFn:AyD := .seq (.ops [mv_ 49 12,mv_ 50 49,⟨some 51,.p (.mov (.t 14)),some ⟨50,true⟩⟩,po_ 52 (.pick (.t 50) (.t 51) (.c (.bool false)))] [0,5,6,10,11,13,52])
 (.cond (.t 52)
 AFi
 (.skip))
def AEU:AyD := .seq (.ops [mv_ 43 10,po_ 44 (.idxA 1 (.t 43) (ci_ 1)),po_ 45 (.load false 1 (.t 44)),so_ 46 (.call 69 [.t 45]),mv_ 42 46,po_ 47 (.ext 0 (.t 42)),po_ 48 (.ext 1 (.t 42)),so_ 13 (.alloc (.arr 20 1 [.val (.int .u8 ((0:Nat):Int)),.val (.int .u8 ((0:Nat):Int)),.val (.int .u8 ((0:Nat):Int)),.val (.int .u8 ((0:Nat):Int)),.val (.int .u8 ((0:Nat):Int)),.val (.int .u8 ((0:Nat):Int)),.val (.int .u8 ((0:Nat):Int)),.val (.int .u8 ((0:Nat):Int)),.val (.int .u8 ((0:Nat):Int)),.val (.int .u8 ((0:Nat):Int)),.val (.int .u8 ((0:Nat):Int)),.val (.int .u8 ((0:Nat):Int)),.val (.int .u8 ((0:Nat):Int)),.val (.int .u8 ((0:Nat):Int)),.val (.int .u8 ((0:Nat):Int)),.val (.int .u8 ((0:Nat):Int)),.val (.int .u8 ((0:Nat):Int)),.val (.int .u8 ((0:Nat):Int)),.val (.int .u8 ((0:Nat):Int)),.val (.int .u8 ((0:Nat):Int))])),⟨none,.s (.store 20 (.t 13) (.t 47)),none⟩,mv_ 14 48] [0,5,6,10,11,12,13,14])
 AFn
def AEQ:AyD := .seq (.ops [mv_ 36 10,po_ 37 (.idxA 1 (.t 36) (ci_ 0)),po_ 38 (.load false 1 (.t 37)),so_ 39 (.call 69 [.t 38]),mv_ 35 39,po_ 40 (.ext 0 (.t 35)),po_ 41 (.ext 1 (.t 35)),so_ 11 (.alloc (.arr 20 1 [.val (.int .u8 ((0:Nat):Int)),.val (.int .u8 ((0:Nat):Int)),.val (.int .u8 ((0:Nat):Int)),.val (.int .u8 ((0:Nat):Int)),.val (.int .u8 ((0:Nat):Int)),.val (.int .u8 ((0:Nat):Int)),.val (.int .u8 ((0:Nat):Int)),.val (.int .u8 ((0:Nat):Int)),.val (.int .u8 ((0:Nat):Int)),.val (.int .u8 ((0:Nat):Int)),.val (.int .u8 ((0:Nat):Int)),.val (.int .u8 ((0:Nat):Int)),.val (.int .u8 ((0:Nat):Int)),.val (.int .u8 ((0:Nat):Int)),.val (.int .u8 ((0:Nat):Int)),.val (.int .u8 ((0:Nat):Int)),.val (.int .u8 ((0:Nat):Int)),.val (.int .u8 ((0:Nat):Int)),.val (.int .u8 ((0:Nat):Int)),.val (.int .u8 ((0:Nat):Int))])),⟨none,.s (.store 20 (.t 11) (.t 40)),none⟩,mv_ 12 41] [0,5,6,10,11,12])
 AEU
def AEL:AyD := .seq (.seq (.ops [mv_ 32 10,po_ 33 (.lenV (.t 32)),po_ 34 (.bin 3 .neq (.t 33) (ci_ 3))] [0,5,6,10,34])
 (.cond (.t 34)
 (.exit 1)
 (.skip)))
 AEQ
def AE6:AyD := .seq (.ops [mv_ 30 7,so_ 31 (.call 68 [.t 30]),mv_ 10 31] [0,5,6,10])
 AEL
def AFq:AyD := .seq (.seq (.ops [mv_ 27 7,po_ 28 (.lenV (.t 27)),po_ 29 (.bin 3 .eql (.t 28) (ci_ 0))] [0,5,6,7,29])
 (.cond (.t 29)
 (.exit 0)
 (.skip)))
 AE6
def AE1:AyD := .seq (.ops [mv_ 26 8,mv_ 6 26] [0,5,6,7])
 AFq
def AEV:AyD := .seq (.seq (.ops [mv_ 24 9,po_ 25 (.un .not (.t 24))] [0,5,7,8,25])
 (.cond (.t 25)
 (.seq (.ops [po_ 2 (.mov (.c (.slice none 0 0))),po_ 3 (.mov (.c (.slice none 0 0))),po_ 4 (.mov (ci_ 110))] [2,3,4])
  (.ret))
 (.skip)))
 AE1
def AD6:AyD := .block 1 (.seq (.ops [mv_ 19 6,so_ 20 (.call 82 [.t 19]),mv_ 18 20,po_ 21 (.ext 0 (.t 18)),po_ 22 (.ext 1 (.t 18)),po_ 23 (.ext 2 (.t 18)),mv_ 7 21,mv_ 8 22,mv_ 9 23] [0,5,7,8,9])
 AEV)
def AEf:AyD := .seq (.seq (.ops [mv_ 68 16,po_ 69 (.bin 3 .neq (.t 68) (ci_ 0)),mv_ 70 69,⟨some 71,.p (.mov (.t 15)),some ⟨70,false⟩⟩,⟨some 72,.p (.b2s (.t 71)),some ⟨70,false⟩⟩,⟨some 73,.p (.mov (.t 0)),some ⟨70,false⟩⟩,⟨some 74,.p (.b2s (.t 73)),some ⟨70,false⟩⟩,⟨some 75,.p (.bin 9 .neq (.t 72) (.t 74)),some ⟨70,false⟩⟩,po_ 76 (.pick (.t 70) (.c (.bool true)) (.t 75))] [5,6,76])
 (.cond (.t 76)
 (.seq (.ops [po_ 2 (.mov (.c (.slice none 0 0))),po_ 3 (.mov (.c (.slice none 0 0))),po_ 4 (.mov (ci_ 111))] [2,3,4])
  (.ret))
 (.skip)))
 (.seq (.ops [mv_ 77 5,mv_ 78 6,mv_ 2 77,mv_ 3 78,po_ 4 (.mov (ci_ 0))] [2,3,4])
 (.ret))
def AEr:AyD := .seq (.ops [mv_ 63 5,mv_ 64 6,so_ 65 (.call 21 [.t 63,.t 64]),mv_ 62 65,po_ 66 (.ext 0 (.t 62)),po_ 67 (.ext 1 (.t 62)),mv_ 15 66,mv_ 16 67] [0,5,6,15,16])
 AEf
def AEq:AyD := .seq (.block 0 (.own 5 41 (.loop [0,5,6] AD6)))
 AEr
def AEg:AyD := .seq (.ops [mv_ 17 0,mv_ 6 17] [0,5,6])
 AEq
def AD9:AyD := .seq (.ops [po_ 5 (.mov (.c (.slice none 0 0)))] [0,5])
 AEg
def AIi:AyD := .seq (.ops [po_ 2 (.mov (.c (.slice none 0 0))),po_ 3 (.mov (.c (.slice none 0 0))),po_ 4 (.mov (ci_ 0))] [0])
 AD9
def AIp:List VR:=[.tmp 2,.tmp 3,.tmp 4]
theorem API:Tryz.f47.body.bind (trC Tryz.prog Tryz.f47.ntmps)=some (er AIi):=by kernel_rfl
theorem APR:trR Tryz.prog Tryz.f47.results.toList=some AIp:=by kernel_rfl
def AJc:=AyA AFi.eq_1
def ABe:=AyA AFn.eq_1
def AJt:=AyA AEU.eq_1
def AJ5:=AyA AEQ.eq_1
def ADG:=AyA AEL.eq_1
def AKo:=AyA AE6.eq_1
def ADu:=AyA AFq.eq_1
def ADp:=AyA AE1.eq_1
def ABi:=AyA AEV.eq_1
def AIR:=AyA AD6.eq_1
def AA3:=AyA AEf.eq_1
def AI1:=AyA AEr.eq_1
def AI3:=AyA AEq.eq_1
def AIY:=AyA AEg.eq_1
def AIT:=AyA AD9.eq_1
def AMZ:=AyA AIi.eq_1
theorem ABa {K:TV→Prop} {e:Env} {H:List Ob}:res AIp e H K=res [.tmp 2,.tmp 3,.tmp 4] e H K:=Ayz rfl
def AOD:=AzJ 79 Tryz.func47 API APR rfl
def AF8:AyD := .seq (.block 1 (.draw 11 [mv_ 11 3,mv_ 12 0,mv_ 13 4,po_ 14 (.idxA 41 (.t 12) (.t 13)),po_ 15 (.fieldA 0 0 (.t 14)),po_ 16 (.load false 1 (.t 15)),mv_ 17 0,mv_ 18 4,po_ 19 (.idxA 41 (.t 17) (.t 18)),po_ 20 (.fieldA 1 1 (.t 19)),po_ 21 (.load true 20 (.t 20)),mv_ 22 0,mv_ 23 4,po_ 24 (.idxA 41 (.t 22) (.t 23)),po_ 25 (.fieldA 2 21 (.t 24)),po_ 26 (.load true 20 (.t 25)),⟨some 27,.p (.build [.val (.string (str [])),.arr 20 1 [.val (.int .u8 ((0:Nat):Int)),.val (.int .u8 ((0:Nat):Int)),.val (.int .u8 ((0:Nat):Int)),.val (.int .u8 ((0:Nat):Int)),.val (.int .u8 ((0:Nat):Int)),.val (.int .u8 ((0:Nat):Int)),.val (.int .u8 ((0:Nat):Int)),.val (.int .u8 ((0:Nat):Int)),.val (.int .u8 ((0:Nat):Int)),.val (.int .u8 ((0:Nat):Int)),.val (.int .u8 ((0:Nat):Int)),.val (.int .u8 ((0:Nat):Int)),.val (.int .u8 ((0:Nat):Int)),.val (.int .u8 ((0:Nat):Int)),.val (.int .u8 ((0:Nat):Int)),.val (.int .u8 ((0:Nat):Int)),.val (.int .u8 ((0:Nat):Int)),.val (.int .u8 ((0:Nat):Int)),.val (.int .u8 ((0:Nat):Int)),.val (.int .u8 ((0:Nat):Int))],.arr 20 1 [.val (.int .u8 ((0:Nat):Int)),.val (.int .u8 ((0:Nat):Int)),.val (.int .u8 ((0:Nat):Int)),.val (.int .u8 ((0:Nat):Int)),.val (.int .u8 ((0:Nat):Int)),.val (.int .u8 ((0:Nat):Int)),.val (.int .u8 ((0:Nat):Int)),.val (.int .u8 ((0:Nat):Int)),.val (.int .u8 ((0:Nat):Int)),.val (.int .u8 ((0:Nat):Int)),.val (.int .u8 ((0:Nat):Int)),.val (.int .u8 ((0:Nat):Int)),.val (.int .u8 ((0:Nat):Int)),.val (.int .u8 ((0:Nat):Int)),.val (.int .u8 ((0:Nat):Int)),.val (.int .u8 ((0:Nat):Int)),.val (.int .u8 ((0:Nat):Int)),.val (.int .u8 ((0:Nat):Int)),.val (.int .u8 ((0:Nat):Int)),.val (.int .u8 ((0:Nat):Int))]] [1,20,20] [⟨0,.t 16⟩,⟨1,.t 21⟩,⟨2,.t 26⟩]),none⟩,⟨some 28,.s (.bslice 41 1 (.agg [.val (.string (str [])),.arr 20 1 [.val (.int .u8 ((0:Nat):Int)),.val (.int .u8 ((0:Nat):Int)),.val (.int .u8 ((0:Nat):Int)),.val (.int .u8 ((0:Nat):Int)),.val (.int .u8 ((0:Nat):Int)),.val (.int .u8 ((0:Nat):Int)),.val (.int .u8 ((0:Nat):Int)),.val (.int .u8 ((0:Nat):Int)),.val (.int .u8 ((0:Nat):Int)),.val (.int .u8 ((0:Nat):Int)),.val (.int .u8 ((0:Nat):Int)),.val (.int .u8 ((0:Nat):Int)),.val (.int .u8 ((0:Nat):Int)),.val (.int .u8 ((0:Nat):Int)),.val (.int .u8 ((0:Nat):Int)),.val (.int .u8 ((0:Nat):Int)),.val (.int .u8 ((0:Nat):Int)),.val (.int .u8 ((0:Nat):Int)),.val (.int .u8 ((0:Nat):Int)),.val (.int .u8 ((0:Nat):Int))],.arr 20 1 [.val (.int .u8 ((0:Nat):Int)),.val (.int .u8 ((0:Nat):Int)),.val (.int .u8 ((0:Nat):Int)),.val (.int .u8 ((0:Nat):Int)),.val (.int .u8 ((0:Nat):Int)),.val (.int .u8 ((0:Nat):Int)),.val (.int .u8 ((0:Nat):Int)),.val (.int .u8 ((0:Nat):Int)),.val (.int .u8 ((0:Nat):Int)),.val (.int .u8 ((0:Nat):Int)),.val (.int .u8 ((0:Nat):Int)),.val (.int .u8 ((0:Nat):Int)),.val (.int .u8 ((0:Nat):Int)),.val (.int .u8 ((0:Nat):Int)),.val (.int .u8 ((0:Nat):Int)),.val (.int .u8 ((0:Nat):Int)),.val (.int .u8 ((0:Nat):Int)),.val (.int .u8 ((0:Nat):Int)),.val (.int .u8 ((0:Nat):Int)),.val (.int .u8 ((0:Nat):Int))]]) [⟨0,.t 27⟩]),none⟩,so_ 29 (.app 41 56 98 (.t 11) (.t 28)),mv_ 3 29] [0,3,4]))
 (.ops [mv_ 9 4,po_ 10 (.bin 3 .add (.t 9) (ci_ 1)),mv_ 4 10] [0,3,4])
def AF6:AyD := .seq (.seq (.ops [mv_ 5 4,mv_ 6 0,po_ 7 (.lenV (.t 6)),po_ 8 (.bin 3 .lss (.t 5) (.t 7))] [0,3,4,8])
 (.cond (.t 8)
 (.skip)
 (.exit 0)))
 AF8
def AF3:AyD := .block 0 (.own 3 41 (.loop [0,3,4] AF6))
def AFS:AyD := .seq (.ops [mv_ 30 3,mv_ 2 30] [2])
 (.ret)
def AGa:AyD := .seq (.seq (.ops [po_ 4 (.mov (ci_ 0))] [0,3,4])
 AF3)
 AFS
def AF1:AyD := .seq (.ops [po_ 3 (.mov (.c (.slice none 0 0)))] [0,3])
 AGa
def AJL:AyD := .seq (.ops [po_ 2 (.mov (.c (.slice none 0 0)))] [0])
 AF1
def AKa:List VR:=[.tmp 2]
theorem AQC:Tryz.f20.body.bind (trC Tryz.prog Tryz.f20.ntmps)=some (er AJL):=by kernel_rfl
theorem AQR:trR Tryz.prog Tryz.f20.results.toList=some AKa:=by kernel_rfl
def ALi:=AyA AF8.eq_1
def AD8:=AyA AF6.eq_1
def AK3:=AyA AF3.eq_1
def AKY:=AyA AFS.eq_1
def AKU:=AyA AGa.eq_1
def AKT:=AyA AF1.eq_1
def AOQ:=AyA AJL.eq_1
theorem AOs {K:TV→Prop} {e:Env} {H:List Ob}:res AKa e H K=res [.tmp 2] e H K:=Ayz rfl
def APX:=AzJ 31 Tryz.func20 AQC AQR rfl
def ADv:AyD := .seq (.ops [mv_ 68 15,mv_ 69 68,⟨some 70,.p (.mov (.t 8)),some ⟨69,true⟩⟩,⟨some 71,.p (.lenV (.t 70)),some ⟨69,true⟩⟩,⟨some 72,.p (.bin 3 .eql (.t 71) (ci_ 0)),some ⟨69,true⟩⟩,po_ 73 (.pick (.t 69) (.t 72) (.c (.bool false))),mv_ 6 73] [6])
 (.ret)
def ADk:AyD := .seq (.seq (.ops [mv_ 66 13,po_ 67 (.bin 3 .neq (.t 66) (ci_ 0))] [8,15,67])
 (.cond (.t 67)
 ADv
 (.skip)))
 (.seq (.ops [mv_ 74 8,so_ 75 (.call 22 [.t 74]),mv_ 16 75] [15,16])
 (.seq (.ops [mv_ 76 15,mv_ 77 76,⟨some 78,.p (.mov (.t 16)),some ⟨77,true⟩⟩,po_ 79 (.pick (.t 77) (.t 78) (.c (.bool false))),mv_ 6 79] [6])
 (.ret)))
def ADx:AyD := .seq (.ops [mv_ 64 2,so_ 65 (.call 22 [.t 64]),mv_ 15 65] [8,13,15])
 ADk
def ADA:AyD := .seq (.seq (.ops [mv_ 52 10,po_ 53 (.un .not (.t 52)),mv_ 54 53,⟨some 55,.p (.mov (.t 14)),some ⟨54,false⟩⟩,⟨some 56,.p (.un .not (.t 55)),some ⟨54,false⟩⟩,po_ 57 (.pick (.t 54) (.c (.bool true)) (.t 56)),mv_ 58 57,⟨some 59,.p (.mov (.t 9)),some ⟨58,false⟩⟩,⟨some 60,.s (.call 11 [.t 59]),some ⟨58,false⟩⟩,⟨some 61,.p (.mov (.t 13)),some ⟨58,false⟩⟩,⟨some 62,.p (.bin 3 .neq (.t 60) (.t 61)),some ⟨58,false⟩⟩,po_ 63 (.pick (.t 58) (.c (.bool true)) (.t 62))] [2,8,13,63])
 (.cond (.t 63)
 (.seq (.ops [po_ 6 (.mov (.c (.bool false)))] [6])
  (.ret))
 (.skip)))
 ADx
def ADz:AyD := .seq (.ops [mv_ 49 8,mv_ 50 12,so_ 51 (.call 10 [.t 49,.t 50]),mv_ 14 51] [2,8,9,10,13,14])
 ADA
def ADr:AyD := .seq (.ops [mv_ 44 11,mv_ 45 1,so_ 46 (.call 21 [.t 44,.t 45]),mv_ 43 46,po_ 47 (.ext 0 (.t 43)),po_ 48 (.ext 1 (.t 43)),mv_ 12 47,mv_ 13 48] [2,8,9,10,12,13])
 ADz
def ADS:AyD := .seq (.ops [mv_ 41 0,so_ 42 (.call 20 [.t 41]),mv_ 11 42] [1,2,8,9,10,11])
 ADr
def ADM:AyD := .seq (.ops [mv_ 38 7,mv_ 39 1,so_ 40 (.call 19 [.t 38,.t 39]),mv_ 10 40] [0,1,2,8,9,10])
 ADS
def ADF:AyD := .seq (.ops [mv_ 33 0,mv_ 34 7,so_ 35 (.call 18 [.t 33,.t 34]),mv_ 32 35,po_ 36 (.ext 0 (.t 32)),po_ 37 (.ext 1 (.t 32)),mv_ 8 36,mv_ 9 37] [0,1,2,7,8,9])
 ADM
def ACD:AyD := .seq (.ops [mv_ 30 1,so_ 31 (.call 17 [.t 30]),mv_ 7 31] [0,1,2,7])
 ADF
def ACO:AyD := .seq (.seq (.ops [mv_ 17 0,po_ 18 (.lenV (.t 17)),po_ 19 (.bin 3 .gtr (.t 18) (ci_ 60)),mv_ 20 19,⟨some 21,.p (.mov (.t 1)),some ⟨20,false⟩⟩,⟨some 22,.p (.lenV (.t 21)),some ⟨20,false⟩⟩,⟨some 23,.p (.bin 3 .gtr (.t 22) (ci_ 6000)),some ⟨20,false⟩⟩,po_ 24 (.pick (.t 20) (.c (.bool true)) (.t 23)),mv_ 25 24,⟨some 26,.p (.mov (.t 2)),some ⟨25,false⟩⟩,⟨some 27,.p (.lenV (.t 26)),some ⟨25,false⟩⟩,⟨some 28,.p (.bin 3 .gtr (.t 27) (ci_ 6000)),some ⟨25,false⟩⟩,po_ 29 (.pick (.t 25) (.c (.bool true)) (.t 28))] [0,1,2,29])
 (.cond (.t 29)
 (.seq (.ops [po_ 6 (.mov (.c (.bool true)))] [6])
  (.ret))
 (.skip)))
 ACD
def AFG:AyD := .seq (.ops [po_ 6 (.mov (.c (.bool false)))] [0,1,2])
 ACO
def AF0:List VR:=[.tmp 6]
theorem AM3:Tryz.f5.body.bind (trC Tryz.prog Tryz.f5.ntmps)=some (er AFG):=by kernel_rfl
theorem AMY:trR Tryz.prog Tryz.f5.results.toList=some AF0:=by kernel_rfl
def AHO:=AyA ADv.eq_1
def ACh:=AyA ADk.eq_1
def ACi:=AyA ADx.eq_1
def ACl:=AyA ADA.eq_1
def ACq:=AyA ADz.eq_1
def ACd:=AyA ADr.eq_1
def ACs:=AyA ADS.eq_1
def AB3:=AyA ADM.eq_1
def AHX:=AyA ADF.eq_1
def AG2:=AyA ACD.eq_1
def AGK:=AyA ACO.eq_1
def AKZ:=AyA AFG.eq_1
theorem AzK {K:TV→Prop} {e:Env} {H:List Ob}:res AF0 e H K=res [.tmp 6] e H K:=Ayz rfl
def AMq:=AzJ 80 Tryz.func5 AM3 AMY rfl
def AHg:AyD := .seq (.block 1 (.seq (.draw 31 [mv_ 58 4,mv_ 59 12,po_ 60 (.idxA 41 (.t 58) (.t 59)),po_ 61 (.fieldA 0 0 (.t 60)),po_ 62 (.load false 1 (.t 61)),mv_ 63 8,mv_ 64 12,po_ 65 (.idxA 41 (.t 63) (.t 64)),po_ 66 (.fieldA 0 0 (.t 65)),po_ 67 (.load false 1 (.t 66)),po_ 68 (.bin 9 .neq (.t 62) (.t 67)),mv_ 69 68,⟨some 70,.p (.mov (.t 4)),some ⟨69,false⟩⟩,⟨some 71,.p (.mov (.t 12)),some ⟨69,false⟩⟩,⟨some 72,.p (.idxA 41 (.t 70) (.t 71)),some ⟨69,false⟩⟩,⟨some 73,.p (.fieldA 1 1 (.t 72)),some ⟨69,false⟩⟩,⟨some 74,.p (.load true 20 (.t 73)),some ⟨69,false⟩⟩,⟨some 75,.p (.mov (.t 8)),some ⟨69,false⟩⟩,⟨some 76,.p (.mov (.t 12)),some ⟨69,false⟩⟩,⟨some 77,.p (.idxA 41 (.t 75) (.t 76)),some ⟨69,false⟩⟩,⟨some 78,.p (.fieldA 1 1 (.t 77)),some ⟨69,false⟩⟩,⟨some 79,.p (.load true 20 (.t 78)),some ⟨69,false⟩⟩,⟨some 80,.p (.gen (.eqA 20 true) [.t 74,.t 79]),some ⟨69,false⟩⟩,po_ 81 (.pick (.t 69) (.c (.bool true)) (.t 80)),mv_ 82 81,⟨some 83,.p (.mov (.t 4)),some ⟨82,false⟩⟩,⟨some 84,.p (.mov (.t 12)),some ⟨82,false⟩⟩,⟨some 85,.p (.idxA 41 (.t 83) (.t 84)),some ⟨82,false⟩⟩,⟨some 86,.p (.fieldA 2 21 (.t 85)),some ⟨82,false⟩⟩,⟨some 87,.p (.load true 20 (.t 86)),some ⟨82,false⟩⟩,⟨some 88,.p (.mov (.t 8)),some ⟨82,false⟩⟩,⟨some 89,.p (.mov (.t 12)),some ⟨82,false⟩⟩,⟨some 90,.p (.idxA 41 (.t 88) (.t 89)),some ⟨82,false⟩⟩,⟨some 91,.p (.fieldA 2 21 (.t 90)),some ⟨82,false⟩⟩,⟨some 92,.p (.load true 20 (.t 91)),some ⟨82,false⟩⟩,⟨some 93,.p (.gen (.eqA 20 true) [.t 87,.t 92]),some ⟨82,false⟩⟩,po_ 94 (.pick (.t 82) (.c (.bool true)) (.t 93))] [4,8,12,94])
 (.cond (.t 94)
 (.seq (.ops [po_ 2 (.mov (.c (.bool false)))] [2])
  (.ret))
 (.skip))))
 (.ops [mv_ 56 12,po_ 57 (.bin 3 .add (.t 56) (ci_ 1)),mv_ 12 57] [4,8,12])
def AGV:AyD := .seq (.seq (.ops [mv_ 52 12,mv_ 53 4,po_ 54 (.lenV (.t 53)),po_ 55 (.bin 3 .lss (.t 52) (.t 54))] [4,8,12,55])
 (.cond (.t 55)
 (.skip)
 (.exit 0)))
 AHg
def AHn:AyD := .block 0 (.loop [4,8,12] AGV)
def AGS:AyD := .seq (.ops [po_ 2 (.mov (.c (.bool true)))] [2])
 (.ret)
def AHy:AyD := .seq (.seq (.ops [po_ 12 (.mov (ci_ 0))] [4,8,12])
 AHn)
 AGS
def AGA:AyD := .seq (.seq (.ops [mv_ 33 7,po_ 34 (.un .not (.t 33)),mv_ 35 34,⟨some 36,.p (.mov (.t 11)),some ⟨35,false⟩⟩,⟨some 37,.p (.un .not (.t 36)),some ⟨35,false⟩⟩,po_ 38 (.pick (.t 35) (.c (.bool true)) (.t 37)),mv_ 39 38,⟨some 40,.p (.mov (.t 6)),some ⟨39,false⟩⟩,⟨some 41,.s (.call 11 [.t 40]),some ⟨39,false⟩⟩,⟨some 42,.p (.mov (.t 10)),some ⟨39,false⟩⟩,⟨some 43,.p (.bin 3 .neq (.t 41) (.t 42)),some ⟨39,false⟩⟩,po_ 44 (.pick (.t 39) (.c (.bool true)) (.t 43)),mv_ 45 44,⟨some 46,.p (.mov (.t 4)),some ⟨45,false⟩⟩,⟨some 47,.p (.lenV (.t 46)),some ⟨45,false⟩⟩,⟨some 48,.p (.mov (.t 8)),some ⟨45,false⟩⟩,⟨some 49,.p (.lenV (.t 48)),some ⟨45,false⟩⟩,⟨some 50,.p (.bin 3 .neq (.t 47) (.t 49)),some ⟨45,false⟩⟩,po_ 51 (.pick (.t 45) (.c (.bool true)) (.t 50))] [4,8,51])
 (.cond (.t 51)
 (.seq (.ops [po_ 2 (.mov (.c (.bool false)))] [2])
  (.ret))
 (.skip)))
 AHy
def AGH:AyD := .seq (.ops [mv_ 30 5,mv_ 31 9,so_ 32 (.call 10 [.t 30,.t 31]),mv_ 11 32] [4,6,7,8,10,11])
 AGA
def AHt:AyD := .seq (.ops [mv_ 25 0,so_ 26 (.call 47 [.t 25]),mv_ 24 26,po_ 27 (.ext 0 (.t 24)),po_ 28 (.ext 1 (.t 24)),po_ 29 (.ext 2 (.t 24)),mv_ 8 27,mv_ 9 28,mv_ 10 29] [4,5,6,7,8,9,10])
 AGH
def AHs:AyD := .seq (.ops [mv_ 21 3,mv_ 22 0,so_ 23 (.call 19 [.t 21,.t 22]),mv_ 7 23] [0,4,5,6,7])
 AHt
def AF2:AyD := .seq (.ops [mv_ 16 3,so_ 17 (.call 46 [.t 16]),mv_ 15 17,po_ 18 (.ext 0 (.t 15)),po_ 19 (.ext 1 (.t 15)),po_ 20 (.ext 2 (.t 15)),mv_ 4 18,mv_ 5 19,mv_ 6 20] [0,3,4,5,6])
 AHs
def AFX:AyD := .seq (.ops [mv_ 13 0,so_ 14 (.call 17 [.t 13]),mv_ 3 14] [0,3])
 AF2
def ALD:AyD := .seq (.ops [po_ 2 (.mov (.c (.bool false)))] [0])
 AFX
def ALy:List VR:=[.tmp 2]
theorem AR5:Tryz.f22.body.bind (trC Tryz.prog Tryz.f22.ntmps)=some (er ALD):=by kernel_rfl
theorem ARP:trR Tryz.prog Tryz.f22.results.toList=some ALy:=by kernel_rfl
def AMb:=AyA AHg.eq_1
def ABt:=AyA AGV.eq_1
def AEW:=AyA AHn.eq_1
def AEO:=AyA AGS.eq_1
def AFp:=AyA AHy.eq_1
def AEJ:=AyA AGA.eq_1
def AES:=AyA AGH.eq_1
def AET:=AyA AHt.eq_1
def AFe:=AyA AHs.eq_1
def ALg:=AyA AF2.eq_1
def AK2:=AyA AFX.eq_1
def APV:=AyA ALD.eq_1
theorem AIk {K:TV→Prop} {e:Env} {H:List Ob}:res ALy e H K=res [.tmp 2] e H K:=Ayz rfl
def ARb:=AzJ 95 Tryz.func22 AR5 ARP rfl
end
section
open Go.RowKit
variable [AyT]
abbrev ChD:=List UInt8×List UInt8×List UInt8
def chT (c:ChD):TV := .agg [ts c.1,.arr 20 1 (c.2.1.map by8),.arr 20 1 (c.2.2.map by8)]
def AAZ (l:List ChD):List (List UInt8):=l.map (·.1)
def AMu (c:ChD):List (List UInt8):=[Azl c.2.1,Azl c.2.2,c.1]
def puB (l:List ChD) (pk:List UInt8):List UInt8:=AVB (l.map AMu)++ADX++pk
def AO5 (l:List ChD):Prop:=((AAZ l).Nodup∧l.length≤500)∧∀ c∈l,AVD c.1
def AKf (l:List ChD):Prop:=∀ c∈l,c.2.1.length=20∧c.2.2.length=20
theorem AJD {a b c:List UInt8}:AFz [a,b,c]=a++32::(b++32::c)++[10]:=by
 unfold AFz
 rw [ANT,ANT,AS5]
theorem ATm {c:ChD} (h:AVD c.1) (h20:c.2.1.length=20∧c.2.2.length=20):(AMu c≠[]∧∀ w∈AMu c,A5J w)∧(AFz (AMu c)).length≤1000:=by
 have hp:=AVe h
 refine ⟨⟨by simp [AMu],fun w hw => ?_⟩,by unfold AMu; rw [AJD]; simp [AB9]; omega⟩
 simp only [AMu,List.mem_cons,List.mem_nil_iff,or_false] at hw
 rcases hw with rfl | rfl | rfl
 ·exact AZL _
 ·exact AZL _
 ·exact hp.2
theorem A2t (ws:List (List UInt8)):AFz ws≠[]:=by simp [AFz]
def ABF (ls:List (List UInt8)) (rest b:List UInt8):Prop:=(∀ x∈ls,x.length≤1000∧x≠[])∧ls.flatMap Azq++(Azq []++rest)=b
theorem AVo:∀ {ls ms:List (List UInt8)} {r s b:List UInt8},ABF ls r b→ABF ms s b→ls=ms∧r=s
 | [],[],r,s,b,h,k=>by
  have e:=h.2.trans k.2.symm
  simp only [List.flatMap_nil,List.nil_append] at e
  exact ⟨rfl,(AEy (by simp) (by simp) e).2⟩
 | [],y::ms,r,s,b,h,k=>by
  have e:=h.2.trans k.2.symm
  rw [List.flatMap_nil,List.nil_append,List.flatMap_cons,List.append_assoc] at e
  have:=(AEy (by simp) (k.1 y (by simp)).1 e).1
  exact absurd this.symm (k.1 y (by simp)).2
 | x::ls,[],r,s,b,h,k=>by
  have e:=h.2.trans k.2.symm
  rw [List.flatMap_nil,List.nil_append,List.flatMap_cons,List.append_assoc] at e
  have:=(AEy (h.1 x (by simp)).1 (by simp) e).1
  exact absurd this (h.1 x (by simp)).2
 | x::ls,y::ms,r,s,b,h,k=>by
  have e:=h.2.trans k.2.symm
  rw [List.flatMap_cons,List.append_assoc,List.flatMap_cons,List.append_assoc] at e
  obtain ⟨rfl,e2⟩:=AEy (h.1 x (by simp)).1 (k.1 y (by simp)).1 e
  obtain ⟨rfl,rfl⟩:=AVo (b:=ls.flatMap Azq++(Azq []++r)) ⟨fun z hz=>h.1 z (by simp [hz]),rfl⟩ ⟨fun z hz=>k.1 z (by simp [hz]),e2.symm⟩
  exact ⟨rfl,rfl⟩
theorem ATH {l:List ChD} {pk:List UInt8} (h:AO5 l) (h20:AKf l):ABF ((l.map AMu).map AFz) pk (puB l pk):=by
 refine ⟨fun x hx => ?_,?_⟩
 ·obtain ⟨ws,hw,rfl⟩:=List.mem_map.1 hx
  obtain ⟨c,hc,rfl⟩:=List.mem_map.1 hw
  exact ⟨(ATm (h.2 c hc) (h20 c hc)).2,A2t _⟩
 ·unfold puB AVB
  rw [List.flatMap_map,List.append_assoc]; rfl
structure FI (b:List UInt8) (ls:List (List UInt8)) (rest:List UInt8):Prop where
 ok:∀ x∈ls,x.length≤1000∧x≠[]
 eq:ls.flatMap Azq++rest=b
theorem FI.start {b:List UInt8}:FI b [] b:=⟨by simp,rfl⟩
theorem FI.step {b rest r x:List UInt8} {ls:List (List UInt8)} (h:FI b ls rest) (hx:x.length≤1000) (h0:x≠[]) (e:Azq x++r=rest):FI b (ls++[x]) r:=by
 refine ⟨fun y hy => ?_,?_⟩
 ·rcases List.mem_append.1 hy with hy | hy
  ·exact h.ok y hy
  ·rw [List.mem_singleton] at hy; subst hy; exact ⟨hx,h0⟩
 ·rw [List.flatMap_append,List.append_assoc,←h.eq,←e]; simp
theorem FI.done {b rest r:List UInt8} {ls:List (List UInt8)} (h:FI b ls rest) (e:Azq []++r=rest):ABF ls r b:=⟨h.ok,by rw [e]; exact h.eq⟩
theorem FI.front:∀ {ls:List (List UInt8)} {b rest:List UInt8},FI b ls rest→∀ {ms:List (List UInt8)} {r:List UInt8},ABF ms r b→∃ m',ms=ls++m'∧ABF m' r rest
 | [],b,rest,h,ms,r,k=>⟨ms,rfl,k.1,by rw [k.2,←h.eq]; rfl⟩
 | x::ls,b,rest,h,[],r,k=>by
  have e:=h.eq.trans k.2.symm
  rw [List.flatMap_cons,List.append_assoc,List.flatMap_nil,List.nil_append] at e
  exact absurd (AEy (h.ok x (by simp)).1 (by simp) e).1 (h.ok x (by simp)).2
 | x::ls,b,rest,h,y::ms,r,k=>by
  have e:=h.eq.trans k.2.symm
  rw [List.flatMap_cons,List.append_assoc,List.flatMap_cons,List.append_assoc] at e
  obtain ⟨rfl,e2⟩:=AEy (h.ok x (by simp)).1 (k.1 y (by simp)).1 e
  obtain ⟨m',rfl,h2⟩:=FI.front (ls:=ls) (b:=ls.flatMap Azq++rest) ⟨fun z hz=>h.ok z (by simp [hz]),rfl⟩ (ms:=ms) (r:=r) ⟨fun z hz=>k.1 z (by simp [hz]),e2.symm⟩
  exact ⟨m',rfl,h2⟩
theorem FI.back {b rest r:List UInt8} {ls m':List (List UInt8)} (h:FI b ls rest) (k:ABF m' r rest):ABF (ls++m') r b:=by
 refine ⟨fun x hx => ?_,?_⟩
 ·rcases List.mem_append.1 hx with hx | hx
  ·exact h.ok x hx
  ·exact k.1 x hx
 ·rw [List.flatMap_append,List.append_assoc,k.2,h.eq]
theorem AS2 {rest:List UInt8} (h:∀ x s,x.length≤1000→Azq x++s≠rest):∀ m r,¬ ABF m r rest:=fun m r k=>by
 cases m with
 | nil=>exact h [] r (by simp) (by have:=k.2; simpa using this)
 | cons x m=>exact h x _ (k.1 x (by simp)).1 (by have:=k.2; rw [List.flatMap_cons,List.append_assoc] at this; exact this)
def AE2 (x:List UInt8):Option ChD:=match ACw x with
 | [a,b,c]=>if ABd a=true∧ABd b=true then some (c,AAM a,AAM b) else none
 | _=>none
theorem AVg {c:ChD} (h:AVD c.1) (h20:c.2.1.length=20∧c.2.2.length=20):AE2 (AFz (AMu c))=some c:=by
 have:=ATm h h20
 unfold AE2
 rw [AYa this.1.1 this.1.2]
 unfold AMu
 simp only [(AQe h20.1).1,(AQe h20.2).1,(AQe h20.1).2,(AQe h20.2).2,and_self,if_true]
def AYA (ls:List (List UInt8)):List ChD:=ls.filterMap AE2
theorem AUj:∀ {l:List ChD},(∀ c∈l,AVD c.1)→AKf l→AYA ((l.map AMu).map AFz)=l
 | [],_,_=>rfl
 | c::l,h,h20=>by
  unfold AYA
  rw [List.map_cons,List.map_cons,List.filterMap_cons,AVg (h c (by simp)) (h20 c (by simp))]
  simp only
  have:=AUj (l:=l) (fun x hx=>h x (by simp [hx])) (fun x hx=>h20 x (by simp [hx]))
  unfold AYA at this
  rw [this]
theorem ARe {ls:List (List UInt8)} {r b:List UInt8} {l:List ChD} {pk:List UInt8} (hF:ABF ls r b) (h:AO5 l) (h20:AKf l) (e:puB l pk=b):AYA ls=l∧r=pk∧∀ x∈ls,AE2 x≠none:=by
 subst e
 obtain ⟨rfl,rfl⟩:=AVo hF (ATH h h20)
 refine ⟨AUj h.2 h20,rfl,fun x hx => ?_⟩
 obtain ⟨ws,hw,rfl⟩:=List.mem_map.1 hx
 obtain ⟨c,hc,rfl⟩:=List.mem_map.1 hw
 rw [AVg (h.2 c hc) (h20 c hc)]; simp
theorem AZW {b:List UInt8} (hF:∀ ls r,¬ ABF ls r b):∀ l pk,AO5 l→AKf l→puB l pk≠b:=fun l pk h h20 e=>hF _ _ (e▸ATH h h20)
theorem A0e {x:List UInt8} {c:ChD} (h:AE2 x=some c):(c.2.1.length=20∧c.2.2.length=20)∧∃ a b,ACw x=[a,b,c.1]∧ABd a=true∧ABd b=true∧c.2.1=AAM a∧c.2.2=AAM b:=by
 unfold AE2 at h
 split at h
 ·rename_i a b d hw
  split at h
  ·rename_i hk
   cases h
   have ha:a.length=40:=by have:=hk.1; unfold ABd at this; simp at this; exact this.1
   have hb:b.length=40:=by have:=hk.2; unfold ABd at this; simp at this; exact this.1
   exact ⟨⟨AB1 (n:=20) ha,AB1 (n:=20) hb⟩,a,b,hw,hk.1,hk.2,rfl,rfl⟩
  ·cases h
 ·cases h
theorem ASk (x:List UInt8):((ACw x).length≠3∧AE2 x=none)∨∃ a b c,ACw x=[a,b,c]∧((¬ (ABd a=true∧ABd b=true)∧AE2 x=none)∨(ABd a=true∧ABd b=true∧AE2 x=some (c,AAM a,AAM b))):=by
 by_cases h3:(ACw x).length=3
 ·obtain ⟨a,b,c,hw⟩:∃ a b c,ACw x=[a,b,c]:=by
   match h:ACw x,h3 with
   | [a,b,c],_=>exact ⟨a,b,c,rfl⟩
  refine .inr ⟨a,b,c,hw,?_⟩
  unfold AE2
  rw [hw]
  by_cases hk:ABd a=true∧ABd b=true
  ·exact .inr ⟨hk.1,hk.2,by simp [hk.1,hk.2]⟩
  ·exact .inl ⟨hk,by simp only [hk,if_false]⟩
 ·refine .inl ⟨h3,?_⟩
  unfold AE2
  split
  ·rename_i a b c hw; rw [hw] at h3; exact absurd rfl h3
  ·rfl
end
section
open Go.RowKit
variable [AyT]
theorem BdN (c:ChD) (h:c.2.1.length=20∧c.2.2.length=20):Azg Tryz.prog 45 [chT c] (fun r=>r=ts c.1):=by
 refine AyJ.toPureV (ALJ (by simp) ?_)
 obtain ⟨n,o,e⟩:=c
 simp only at h
 have h1:(o.map by8).length=20:=by rw [List.length_map]; exact h.1
 have h2:(e.map by8).length=20:=by rw [List.length_map]; exact h.2
 simp -dsimp (disch:=first | assumption | omega | (simp only [AyC];try omega)) only [↓AyG,AyB,AyE,AyF,eq_self,Nat.reduceEqDiff,↓reduceIte,chT,↓ANL]
theorem Bcf (l:List ChD) (h20:AKf l) (hl:l.length≤1000000):Azg Tryz.prog 44 [.sl 41 (l.map chT),i64 ((500:Nat):Int),.val (.func (.func 45) #[] #[])] (fun r=>r=tb (decide ((AAZ l).Nodup∧l.length≤500))):=by
 refine AyJ.toPureV (ADP (by simp) ?_)
 generalize hB:decide ((AAZ l).Nodup∧l.length≤500)=B
 simp -dsimp (disch:=first | assumption | omega | (simp only [AyC];try omega)) only [↓AyG,AyB,AyE,AyF,eq_self,Nat.reduceEqDiff,↓reduceIte,Nat.reduceAdd,reduceCtorEq,↓AC8,↓ABP,↓ABW,↓ABD]
 refine ABj (fun q e H=>∃ (i:Nat) (es:List (List UInt8×TV)),q=l.length - i∧i≤l.length∧A5q es ((AAZ l).take i)∧H[0]?=some (.mpo .str es)∧e=[(0,.sl 41 (l.map chT)),(1,i64 ((500:Nat):Int)),(2,.val (.func (.func 45) #[] #[])),(7,.mp 0 0),(11,.sl 41 (l.map chT)),(12,i64 (l.length:Int)),(13,i64 (i:Int))]) l.length ?_ ?_
 ·exact ⟨0,[],rfl,Nat.zero_le _,A5q.nil,rfl,by simp [forget,get]⟩
 rintro q e H ⟨i,es,rfl,hi,hS,hH,rfl⟩
 have hHl:0<H.length:=(List.getElem?_eq_some_iff.1 hH).1
 have hnl:(AAZ l).length=l.length:=by simp [AAZ]
 by_cases hil:i<l.length
 case neg =>
  have hi2:i=l.length:=by omega
  rw [List.take_of_length_le (by omega)] at hS
  have h1:=hS.nd
  have h2:=hS.le
  rw [hnl] at h1 h2
  by_cases he:es.length=l.length
  ·by_cases h5:l.length≤500
   ·simp -dsimp (disch:=first | assumption | omega | (simp only [AyC];try omega)) only [↓AyG,AyB,AyE,AyF,eq_self,Nat.reduceEqDiff,↓reduceIte,reduceCtorEq,hH,he,↓Azf,↓Azd,↓Azv,↓AzD]
    rw [←hB,decide_eq_true (show (AAZ l).Nodup∧l.length≤500 from ⟨h1.1 he,h5⟩),decide_eq_true h5]
   ·simp -dsimp (disch:=first | assumption | omega | (simp only [AyC];try omega)) only [↓AyG,AyB,AyE,AyF,eq_self,Nat.reduceEqDiff,↓reduceIte,reduceCtorEq,hH,he,h5,↓Azf,↓Azd,↓Azv,↓AzD]
    rw [←hB,decide_eq_false fun h=>h5 h.2]
  ·simp -dsimp (disch:=first | assumption | omega | (simp only [AyC];try omega)) only [↓AyG,AyB,AyE,AyF,eq_self,Nat.reduceEqDiff,↓reduceIte,reduceCtorEq,hH,he,↓Azf,↓Azd,↓Azv,↓AzD]
   rw [←hB,decide_eq_false fun h=>he (h1.2 h.1)]
 obtain ⟨⟨n,x,z⟩,hr⟩:∃ r,l[i]?=some r:=⟨_,List.getElem?_eq_getElem hil⟩
 have hid:=h20 _ (List.mem_of_getElem? hr)
 simp only at hid
 have hx20:(x.map by8).length=20:=by rw [List.length_map]; exact hid.1
 have hz20:(z.map by8).length=20:=by rw [List.length_map]; exact hid.2
 have hg:(l.map chT)[i]?=some (.agg [ts n,.arr 20 1 (x.map by8),.arr 20 1 (z.map by8)]):=by rw [List.getElem?_map,hr]; rfl
 have hcl:=hS.cnt n
 have hadd:=hS.add n
 have hts:(AAZ l).take (i+1)=(AAZ l).take i++[n]:=by rw [List.take_add_one]; unfold AAZ; rw [List.getElem?_map,hr]; rfl
 rw [←hts] at hadd
 have hcount:((AAZ l).take i).count n≤i:=by have:=List.count_le_length (a:=n) (l:=(AAZ l).take i); rw [List.length_take] at this; omega
 generalize ((AAZ l).take i).count n=c at *
 simp -dsimp (disch:=first | assumption | omega | (simp only [AyC];try omega)) only [↓AyG,AyB,AyE,AyF,eq_self,Nat.reduceEqDiff,↓reduceIte,Nat.reduceAdd,reduceCtorEq,hg,↓Azf,↓Azd,↓ABU]
 refine ⟨by kernel_rfl,AMH ((BdN (n,x,z) hid).calls rfl fun r hr => ?_)⟩
 subst hr
 have hA:∀ T:List Ob,(H++T)[0]?=some (.mpo .str es):=fun T=>by rw [List.getElem?_append_left hHl]; exact hH
 simp -dsimp (disch:=first | assumption | omega | (simp only [AyC];try omega)) only [↓AyG,AyB,AyE,AyF,eq_self,Nat.reduceEqDiff,↓reduceIte,reduceCtorEq,hA,hcl]
 exact AyW (l.length - (i+1)) (by omega) (by simp) ⟨i+1,_,rfl,by omega,hadd,by rw [AZk hHl],by simp [forget,get]⟩
end
section
open Go.RowKit
variable [AyT] [AA7]
def AVy (l:List ChD) (pk:List UInt8):Prop:=(l.length≤20000∧pk.length≤1000000)∧∀ c∈l,c.1.length≤2000000∧c.2.1.length=20∧c.2.2.length=20
def Bcr (l:List ChD) (pk:List UInt8) (r:TV):Prop:=(AO5 l→r = .tup [slB (puB l pk),.val .nilIface])∧(¬ AO5 l→r = .tup [AEC,eno 111])
def A1q (l:List ChD) (i:Nat):Prop:=((AAZ l).Nodup∧l.length≤500)∧∀ c∈l.take i,AVD c.1
theorem A0d {l:List ChD} {i:Nat} {s:ChD} (h:l[i]?=some s):A1q l (i+1)↔A1q l i∧AVD s.1:=by
 unfold A1q
 rw [List.take_add_one,h]
 constructor
 ·rintro ⟨h1,h2⟩
  exact ⟨⟨h1,fun x hx=>h2 x (by simp [hx])⟩,h2 s (by simp)⟩
 ·rintro ⟨⟨h1,h2⟩,h3⟩
  refine ⟨h1,fun x hx => ?_⟩
  rcases List.mem_append.1 hx with hx | hx
  ·exact h2 x hx
  ·simp at hx; subst hx; exact h3
theorem ATM {l:List ChD}:A1q l l.length↔AO5 l:=by unfold A1q AO5; rw [List.take_length]
theorem AOH (l:List ChD) (pk:List UInt8) (hf:AVy l pk):ADN Tryz.prog 18 [.sl 41 (l.map chT),slB pk] (Bcr l pk):=by
 refine AyJ.toFreshV (AOB (by simp) ?_)
 obtain ⟨⟨f1,fp⟩,f2⟩:=hf
 simp -dsimp (disch:=first | assumption | omega | (simp only [AyC];try omega)) only [↓AyG,AyB,AyE,AyF,eq_self,Nat.reduceEqDiff,↓reduceIte,Nat.reduceAdd,reduceCtorEq,↓AMR,↓AI5,↓AJR]
 refine (Bcf l (fun c hc=>(f2 c hc).2) (by omega)).calls (by rfl) fun r hr => ?_
 subst hr
 simp -dsimp (disch:=first | assumption | omega | (simp only [AyC];try omega)) only [↓AyG,AyB,AyE,AyF,eq_self,Nat.reduceEqDiff,↓reduceIte]
 refine A9K (z:=0) (l:=[]) (ok:=True) (n:=0) (TSt.new rfl (by omega)) fun H1 m1 m2 m3 => ?_
 have hH1:H1.length=1:=by simpa using m3
 simp -dsimp (disch:=first | assumption | omega | (simp only [AyC];try omega)) only [↓AyG,AyB,AyE,AyF,eq_self,Nat.reduceEqDiff,↓reduceIte,reduceCtorEq,↓AJ6,↓AKp]
 refine ABj (fun q e G=>∃ (i:Nat),q=l.length - i∧i≤l.length∧TSt 0 0 G (AVB ((l.take i).map AMu)) (A1q l i) (i*3000015)∧1≤G.length∧e=[(1,slB pk),(6,.op 0 0 []),(15,.sl 41 (l.map chT)),(16,i64 (l.length:Int)),(17,i64 (i:Int))]) l.length ?_ ?_
 ·refine ⟨0,rfl,Nat.zero_le _,?_,m1.lt,by simp [forget,get]⟩
  refine (m1.iff ?_).le (Nat.zero_le _)
  rw [decide_eq_true_eq]
  simp [A1q]
 rintro q e G ⟨i,rfl,hi,hT,hGn,rfl⟩
 by_cases hil:i<l.length
 case neg =>
  have hi2:i=l.length:=by omega
  subst hi2
  rw [List.take_length] at hT
  simp -dsimp (disch:=first | assumption | omega | (simp only [AyC];try omega)) only [↓AyG,AyB,AyE,AyF,eq_self,Nat.reduceEqDiff,↓reduceIte,↓ADR,↓ADU,↓AJs]
  refine A7P hT (by omega) fun H2 m1 m2 m3 => ?_
  obtain ⟨o,m,bad,J,h1,h2,h3,h4,h5,h6,h7⟩:=m1
  have hl2:0<H2.length:=(List.getElem?_eq_some_iff.1 h1).1
  cases J with
  | none =>
   obtain ⟨rfl,rfl⟩:=h2
   have hbad:¬ A1q l l.length:=fun k=>by have:=h5 k; simp [ADX] at this
   have hbt:bad=true:=by cases bad with
    | true=>rfl
    | false=>exact absurd (h4.1 rfl) hbad
   subst hbt
   have hA:∀ T:List Ob,(H2++T)[0]?=some (.obj 0 (.agg [AEC,tb true])):=fun T=>by rw [List.getElem?_append_left hl2]; exact h1
   simp -dsimp (disch:=first | assumption | omega | (simp only [AyC];try omega)) only [↓AyG,AyB,AyE,AyF,eq_self,Nat.reduceEqDiff,↓reduceIte,h1,hA,↓ADQ]
   have hA2:∀ T:List Ob,(H2.set 0 (.obj 0 (.agg [.os 1 H2.length 1 [] 0 pk.length pk.length,tb true]))++T)[0]?=some (.obj 0 (.agg [.os 1 H2.length 1 [] 0 pk.length pk.length,tb true])):=fun T=>AZk hl2
   refine AMH (A4G (hA2 _) rfl rfl rfl ?_)
   rw [if_pos rfl]
   simp -dsimp (disch:=first | assumption | omega | (simp only [AyC];try omega)) only [↓AyG,AyB,AyE,AyF,eq_self,Nat.reduceEqDiff,↓reduceIte,↓ACe]
   exact ⟨fun h=>absurd (ATM.2 h) hbad,fun _=>rfl⟩
  | some j =>
   obtain ⟨v,rfl,hj⟩:=h2
   have hj0:j≠0:=by rintro rfl; rw [h1] at hj; cases hj
   have hjl:j<H2.length:=(List.getElem?_eq_some_iff.1 hj).1
   have hS:∀ o:Ob,(H2.set j o)[0]?=some (.obj 0 (.agg [.os 1 j v [] 0 m.length m.length,tb bad])):=fun o=>by rw [List.getElem?_set_ne hj0]; exact h1
   have hmt:(m.map by8).take m.length=m.map by8:=List.take_of_length_le (by simp)
   simp -dsimp (disch:=first | assumption | omega | (simp only [AyC];try omega)) only [↓AyG,AyB,AyE,AyF,eq_self,Nat.reduceEqDiff,↓reduceIte,h1,hj,hS,hmt,↓ADQ]
   have hL:(m++pk).length=m.length+pk.length:=by simp
   refine AMH (A4G (List.getElem?_set_self (by simpa using hl2)) rfl rfl rfl ?_)
   cases bad with
   | true =>
    rw [if_pos rfl]
    simp -dsimp (disch:=first | assumption | omega | (simp only [AyC];try omega)) only [↓AyG,AyB,AyE,AyF,eq_self,Nat.reduceEqDiff,↓reduceIte,↓ACe]
    exact ⟨fun h=>absurd (h4.2 (ATM.2 h)) (by simp),fun _=>rfl⟩
   | false =>
    have hok:=h4.1 rfl
    have hm:=h5 hok
    have hE:m++pk=puB l pk:=by rw [hm]; rfl
    have hEl:(puB l pk).length=m.length+pk.length:=by rw [←hE,hL]
    have hEc:List.map by8 m++List.map by8 pk=(puB l pk).map by8:=by rw [←hE,List.map_append]
    have hS2:∀ o o2:Ob,((H2.set j o).set 0 o2)[j]?=some o:=fun o o2=>by rw [List.getElem?_set_ne (Ne.symm hj0),List.getElem?_set_self hjl]
    have ht2:((puB l pk).map by8).take (m.length+pk.length)=(puB l pk).map by8:=List.take_of_length_le (by simp [hEl])
    rw [if_neg (by simp)]
    simp -dsimp (disch:=first | assumption | omega | (simp only [AyC];try omega)) only [↓AyG,AyB,AyE,AyF,eq_self,Nat.reduceEqDiff,↓reduceIte,hS2,hEc,ht2,↓ACe]
    exact ⟨fun _=>rfl,fun h=>absurd (ATM.1 hok) h⟩
 obtain ⟨⟨nm,x,z⟩,hr⟩:∃ r,l[i]?=some r:=⟨_,List.getElem?_eq_getElem hil⟩
 have hrm:=f2 _ (List.mem_of_getElem? hr)
 simp only at hrm
 obtain ⟨hnl,hx20,hz20⟩:=hrm
 have hx':(x.map by8).length=20:=by rw [List.length_map]; exact hx20
 have hz':(z.map by8).length=20:=by rw [List.length_map]; exact hz20
 have hg:(l.map chT)[i]?=some (.agg [ts nm,.arr 20 1 (x.map by8),.arr 20 1 (z.map by8)]):=by rw [List.getElem?_map,hr]; rfl
 have hra:=A0d hr
 have hsn:l.take (i+1)=l.take i++[(nm,x,z)]:=by rw [List.take_add_one,hr]; rfl
 simp -dsimp (disch:=first | assumption | omega | (simp only [AyC];try omega)) only [↓AyG,AyB,AyE,AyF,eq_self,Nat.reduceEqDiff,↓reduceIte,Nat.reduceAdd,hg,↓ADR,↓ADU,↓AJa,↓AKr]
 refine (A49 nm (by omega)).calls rfl fun r hr' => ?_
 subst hr'
 have hTg:=hT.grow [Ob.obj 0 (.agg [ts nm,.arr 20 1 (x.map by8),.arr 20 1 (z.map by8)])]
 have hGl:0<G.length:=hT.lt
 have hGk:(G++[Ob.obj 0 (.agg [ts nm,.arr 20 1 (x.map by8),.arr 20 1 (z.map by8)])])[G.length]?=some (.obj 0 (.agg [ts nm,.arr 20 1 (x.map by8),.arr 20 1 (z.map by8)])):=by simp
 simp -dsimp (disch:=first | assumption | omega | (simp only [AyC];try omega)) only [↓AyG,AyB,AyE,AyF,eq_self,Nat.reduceEqDiff,↓reduceIte]
 refine AMH (A9K hTg fun H2 m1 m2 m3 => ?_)
 have m1':=m1.iff (show A1q l i∧nmB nm=true↔A1q l (i+1) by rw [hra,AQQ])
 have m3':H2.length=G.length+1:=by simpa using m3
 have hK:H2[G.length]?=some (.obj 0 (.agg [ts nm,.arr 20 1 (x.map by8),.arr 20 1 (z.map by8)])):=(m2 _ (by omega)).trans hGk
 simp -dsimp (disch:=first | assumption | omega | (simp only [AyC];try omega)) only [↓AyG,AyB,AyE,AyF,eq_self,Nat.reduceEqDiff,↓reduceIte,Nat.reduceAdd,hK]
 refine ⟨_,(Bde x hx20).calls rfl fun r hr=>⟨hr,rfl⟩,?_⟩
 simp -dsimp (disch:=first | assumption | omega | (simp only [AyC];try omega)) only [↓AyG,AyB,AyE,AyF,eq_self,Nat.reduceEqDiff,↓reduceIte]
 refine ⟨_,(Bde z hz20).calls rfl fun r hr=>⟨hr,rfl⟩,?_⟩
 simp -dsimp (disch:=first | assumption | omega | (simp only [AyC];try omega)) only [↓AyG,AyB,AyE,AyF,eq_self,Nat.reduceEqDiff,↓reduceIte,Nat.reduceLeDiff]
 have hcat:((((List.replicate 3 (TV.val (Value.string (str [])))).set 0 (TV.val (Value.string (str (Azl x))))).set 1 (TV.val (Value.string (str (Azl z))))).set 2 (ts nm))=(AMu (nm,x,z)).map ts:=rfl
 rw [hcat]
 refine AMH (Bed (ws:=AMu (nm,x,z)) (m1'.grow _) (by simp [AMu]) (by simp [AMu]) (by simp [AMu]) (by unfold AMu; rw [ANT,ANT,AS5]; simp [AB9]; omega) (by omega) fun H3 n1 n2 n3 => ?_)
 simp -dsimp (disch:=first | assumption | omega | (simp only [AyC];try omega)) only [↓AyG,AyB,AyE,AyF,eq_self,Nat.reduceEqDiff,↓reduceIte]
 rw [List.length_append,List.length_singleton] at n3
 refine AyW (l.length - (i+1)) (by omega) (by omega) ⟨i+1,rfl,by omega,?_,by omega,by simp [forget,get]⟩
 rw [hsn,List.map_append,AWQ,List.map_cons,List.map_nil,AW6]
 exact n1.le (by omega)
end
section
open Go.RowKit
variable [AyT] [AA7]
def A4P (l:List ChD) (pk:List UInt8) (r:TV):Prop:=(AO5 l→r = .tup [slB (puB l pk),i64 ((0:Nat):Int)])∧(¬ AO5 l→r = .tup [AEC,i64 ((111:Nat):Int)])
theorem AUF {l:List ChD} {k:Nat} {s:ChD} (h:l[k]?=some s):(AAZ l)[k]?=some s.1:=by unfold AAZ; rw [List.getElem?_map,h]; rfl
theorem AZj {l:List ChD} {pk:TV} {i:Nat} {nm x z:List UInt8} (hi:l[i]?=some (nm,x,z)) (h20:AKf l) (hl:l.length≤20000) {Q:VEx→Env→List Ob→Prop} {y:TV} {H:List Ob} {E:Env} (hE:forget [0,1,6,7,9] E=[(0,.sl 41 (l.map chT)),(1,pk),(6,y),(7,i64 (i:Int)),(9,i64 ((0:Nat):Int))])
  (hyes:(∀ k,k<i→(AAZ l)[k]?≠some nm)→∀ n m,Q (.exit 2) [(0,.sl 41 (l.map chT)),(1,pk),(6,y),(7,i64 (i:Int)),(9,n),(30,m)] H)
  (hno:(∃ k,k<i∧(AAZ l)[k]?=some nm)→Q .ret [(4,AEC),(5,i64 ((111:Nat):Int))] H) :
  vwp Tryz.prog (.loop [0,1,6,7,9] ABm) Q E H:=by
 have hil:=(List.getElem?_eq_some_iff.1 hi).1
 have hid:=h20 _ (List.mem_of_getElem? hi)
 simp only at hid
 have hx':(x.map by8).length=20:=by rw [List.length_map]; exact hid.1
 have hz':(z.map by8).length=20:=by rw [List.length_map]; exact hid.2
 have hg:(l.map chT)[i]?=some (.agg [ts nm,.arr 20 1 (x.map by8),.arr 20 1 (z.map by8)]):=by rw [List.getElem?_map,hi]; rfl
 refine ABj (fun q e G=>∃ k:Nat,q=i - k∧k≤i∧(∀ j,j<k→(AAZ l)[j]?≠some nm)∧G=H∧e=[(0,.sl 41 (l.map chT)),(1,pk),(6,y),(7,i64 (i:Int)),(9,i64 (k:Int))]) i ⟨0,rfl,Nat.zero_le _,fun j h=>by omega,rfl,hE⟩ ?_
 rintro q e G ⟨k,rfl,hk,hn,rfl,rfl⟩
 by_cases hki:k<i
 case neg =>
  have hk2:k=i:=by omega
  subst hk2
  simp -dsimp (disch:=first | assumption | omega | (simp only [AyC];try omega)) only [↓AyG,AyB,AyE,AyF,eq_self,Nat.reduceEqDiff,↓reduceIte,reduceCtorEq,↓AA4]
  exact hyes hn _ _
 obtain ⟨⟨kn,kx,kz⟩,hq⟩:∃ r,l[k]?=some r:=⟨_,List.getElem?_eq_getElem (by omega)⟩
 have hkd:=h20 _ (List.mem_of_getElem? hq)
 simp only at hkd
 have hkx':(kx.map by8).length=20:=by rw [List.length_map]; exact hkd.1
 have hkz':(kz.map by8).length=20:=by rw [List.length_map]; exact hkd.2
 have hgk:(l.map chT)[k]?=some (.agg [ts kn,.arr 20 1 (kx.map by8),.arr 20 1 (kz.map by8)]):=by rw [List.getElem?_map,hq]; rfl
 have hnk:=AUF hq
 by_cases he:kn=nm
 ·have het:(kn=nm)=True:=eq_true he
  simp -dsimp (disch:=first | assumption | omega | (simp only [AyC];try omega)) only [↓AyG,AyB,AyE,AyF,eq_self,Nat.reduceEqDiff,↓reduceIte,reduceCtorEq,hg,hgk,het,↓AA4,↓ACB]
  exact hno ⟨k,hki,by rw [hnk,he]⟩
 ·simp -dsimp (disch:=first | assumption | omega | (simp only [AyC];try omega)) only [↓AyG,AyB,AyE,AyF,eq_self,Nat.reduceEqDiff,↓reduceIte,reduceCtorEq,hg,hgk,he,↓AA4,↓ACB]
  refine AyW (i - (k+1)) (by omega) (Nat.le_refl _) ⟨k+1,rfl,by omega,fun j hj => ?_,rfl,by simp [forget,get]⟩
  by_cases hjk:j=k
  ·subst hjk; rw [hnk]; exact fun e=>he (Option.some.inj e)
  ·exact hn j (by omega)
def AX6 (l:List ChD) (i:Nat):Prop:=(l.length≤500∧(AAZ (l.take i)).Nodup)∧∀ s∈l.take i,AVD s.1
theorem AZS {l:List ChD} (h:AX6 l l.length):AO5 l:=by
 unfold AX6 at h
 rw [List.take_length] at h
 exact ⟨⟨h.1.2,h.1.1⟩,h.2⟩
theorem AXz {l:List ChD} {i:Nat} {s:ChD} (h:AX6 l i) (hi:l[i]?=some s) (h1:AVD s.1) (h2:∀ k,k<i→(AAZ l)[k]?≠some s.1):AX6 l (i+1):=by
 unfold AX6 at *
 have e:l.take (i+1)=l.take i++[s]:=by rw [List.take_add_one,hi]; rfl
 rw [e]
 refine ⟨⟨h.1.1,?_⟩,fun x hx => ?_⟩
 ·unfold AAZ
  rw [List.map_append,List.nodup_append]
  refine ⟨h.1.2,by simp,fun a ha b hb => ?_⟩
  simp at hb
  subst hb
  rintro rfl
  rw [List.map_take] at ha
  obtain ⟨k,hk,hka⟩:=List.getElem_of_mem ha
  rw [List.length_take] at hk
  refine h2 k (by omega) ?_
  unfold AAZ
  rw [List.getElem_take] at hka
  rw [List.getElem?_eq_getElem (by omega),hka]
 ·rcases List.mem_append.1 hx with hx | hx
  ·exact h.2 x hx
  ·simp at hx; subst hx; exact h1
theorem A9f {l:List ChD} {i k:Nat} {s:ChD} (hi:l[i]?=some s) (hk:k<i) (h:(AAZ l)[k]?=some s.1):¬ AO5 l:=by
 rintro ⟨⟨hn,_⟩,_⟩
 have h2:=AUF hi
 obtain ⟨a1,a2⟩:=List.getElem?_eq_some_iff.1 h
 obtain ⟨b1,b2⟩:=List.getElem?_eq_some_iff.1 h2
 exact (List.pairwise_iff_getElem.1 hn) k i a1 b1 hk (by rw [a2,b2])
theorem AQo (l:List ChD) (pk:List UInt8) (hf:AVy l pk):ADN Tryz.prog 21 [.sl 41 (l.map chT),slB pk] (A4P l pk):=by
 refine AyJ.toFreshV (ANU (by simp) ?_)
 obtain ⟨⟨f1,fp⟩,f2⟩:=hf
 have h20:AKf l:=fun c hc=>(f2 c hc).2
 have no:¬ AO5 l→∀ H',A0G ADe (fun x H'=>Azm (frs H' x) (A4P l pk)) .ret [(4,AEC),(5,i64 ((111:Nat):Int))] H':=by
  intro h1 H'
  simp -dsimp (disch:=first | assumption | omega | (simp only [AyC];try omega)) only [↓AyG,AyB,AyE,AyF,eq_self,Nat.reduceEqDiff,↓reduceIte,↓AEZ]
  exact ⟨fun h=>absurd h h1,fun _=>rfl⟩
 by_cases h500:l.length≤500
 case neg =>
  simp -dsimp (disch:=first | assumption | omega | (simp only [AyC];try omega)) only [↓AyG,AyB,AyE,AyF,eq_self,Nat.reduceEqDiff,↓reduceIte,Nat.reduceAdd,reduceCtorEq,↓AFb,↓ACm,↓ACa]
  exact no (fun h=>h500 h.1.2) _
 simp -dsimp (disch:=first | assumption | omega | (simp only [AyC];try omega)) only [↓AyG,AyB,AyE,AyF,eq_self,Nat.reduceEqDiff,↓reduceIte,Nat.reduceAdd,reduceCtorEq,↓AFb,↓ACm,↓ACa,↓AHL,↓AHI]
 refine ABj (fun q e G=>∃ (i j v cp:Nat) (b:List UInt8),q=l.length - i∧i≤l.length∧b=AVB ((l.take i).map AMu)∧b.length≤i*1004∧AX6 l i∧G[j]?=some (.obj v (.arr b.length 1 (b.map by8)))∧1≤G.length∧e=[(0,.sl 41 (l.map chT)),(1,slB pk),(6,.os 1 j v [] 0 b.length cp),(7,i64 (i:Int))]) l.length ?_ ?_
 ·exact ⟨0,0,0,0,[],rfl,Nat.zero_le _,rfl,by simp,⟨⟨h500,by simp [AAZ]⟩,by simp⟩,rfl,by simp,by simp [forget,get]⟩
 rintro q e G ⟨i,j,v,cp,b,rfl,hi,hB,hbl,hP,hGj,hGn,rfl⟩
 have hjl:=(List.getElem?_eq_some_iff.1 hGj).1
 have hbt:=List.take_of_length_le (l:=b.map by8) (i:=b.length) (by simp)
 by_cases hil:i<l.length
 case neg =>
  have hi2:i=l.length:=by omega
  subst hi2
  rw [List.take_length] at hB
  have hok:=AZS hP
  have hE:puB l pk=b++ADX++pk:=by rw [hB]; rfl
  have z4:ADX.length=4:=rfl
  have hSj:∀ o:Ob,(G.set j o)[j]?=some o:=fun o=>List.getElem?_set_self hjl
  have hSj2:∀ o o2:Ob,((G.set j o).set j o2)[j]?=some o2:=fun o o2=>List.getElem?_set_self (by simpa using hjl)
  have hc4:List.map by8 b++[by8 48,by8 48,by8 48,by8 48]=(b++ADX).map by8:=by rw [List.map_append]; rfl
  have hc5:(b++ADX).map by8++pk.map by8=(puB l pk).map by8:=by rw [hE,List.map_append (l₁:=b++ADX)]
  have hl4:(b++ADX).length=b.length+4:=by simp [ADX]
  have hl5:(puB l pk).length=b.length+4+pk.length:=by rw [hE]; simp [ADX]; omega
  have ht4:=List.take_of_length_le (l:=(b++ADX).map by8) (i:=b.length+4) (by rw [List.length_map,hl4]; exact Nat.le_refl _)
  have ht5:=List.take_of_length_le (l:=(puB l pk).map by8) (i:=b.length+4+pk.length) (by rw [List.length_map,hl5]; exact Nat.le_refl _)
  simp -dsimp (disch:=first | assumption | omega | (simp only [AyC];try omega)) only [↓AyG,AyB,AyE,AyF,eq_self,Nat.reduceEqDiff,↓reduceIte,Nat.reduceAdd,reduceCtorEq,Nat.reduceLeDiff,AyX,hGj,hbt,hSj,hc4,ht4,hc5,ht5,hl4,↓ACC,↓AHT,↓AEZ]
  exact ⟨fun _=>rfl,fun h=>absurd hok h⟩
 obtain ⟨⟨nm,x,z⟩,hr⟩:∃ r,l[i]?=some r:=⟨_,List.getElem?_eq_getElem hil⟩
 have hmem:=List.mem_of_getElem? hr
 have hrm:=f2 _ hmem
 simp only at hrm
 obtain ⟨hnl,hx20,hz20⟩:=hrm
 have hx':(x.map by8).length=20:=by rw [List.length_map]; exact hx20
 have hz':(z.map by8).length=20:=by rw [List.length_map]; exact hz20
 have hg:(l.map chT)[i]?=some (.agg [ts nm,.arr 20 1 (x.map by8),.arr 20 1 (z.map by8)]):=by rw [List.getElem?_map,hr]; rfl
 have hsn:l.take (i+1)=l.take i++[(nm,x,z)]:=by rw [List.take_add_one,hr]; rfl
 simp -dsimp (disch:=first | assumption | omega | (simp only [AyC];try omega)) only [↓AyG,AyB,AyE,AyF,eq_self,Nat.reduceEqDiff,↓reduceIte,reduceCtorEq,hg,↓ACC,↓AI7]
 refine (A3I nm (by omega)).calls rfl fun r hr' => ?_
 subst hr'
 cases hnb:nmB nm with
 | false =>
  simp -dsimp (disch:=first | assumption | omega | (simp only [AyC];try omega)) only [↓AyG,AyB,AyE,AyF,eq_self,Nat.reduceEqDiff,↓reduceIte,reduceCtorEq,↓ACA]
  exact no (fun k=>by have:=AQQ.2 (k.2 _ hmem); rw [hnb] at this; cases this) _
 | true =>
 have hS:=AQQ.1 hnb
 simp -dsimp (disch:=first | assumption | omega | (simp only [AyC];try omega)) only [↓AyG,AyB,AyE,AyF,eq_self,Nat.reduceEqDiff,↓reduceIte,reduceCtorEq,↓ACA,↓AIX,↓AIZ]
 refine AZj hr h20 f1 (pk:=slB pk) (y := .os 1 j v [] 0 b.length cp) (by simp [forget,get]) (fun hn n m => ?_) (fun ⟨k,hk,he⟩ => ?_)
 ·have hpl:=(AVe hS).1
  have hP':=AXz hP hr hS hn
  have hxl:(Azl x).length=40:=by rw [AB9]; omega
  have hzl:(Azl z).length=40:=by rw [AB9]; omega
  have c1:AAL 9 BinOp.add (.string (str (Azl x))) (.string (str [32]))=some (.string (str (Azl x++[32]))):=AT7 (by simp; omega)
  have c2:AAL 9 BinOp.add (.string (str (Azl x++[32]))) (.string (str (Azl z)))=some (.string (str (Azl x++[32]++Azl z))):=AT7 (by simp; omega)
  have c3:AAL 9 BinOp.add (.string (str (Azl x++[32]++Azl z))) (.string (str [32]))=some (.string (str (Azl x++[32]++Azl z++[32]))):=AT7 (by simp; omega)
  have c4:AAL 9 BinOp.add (.string (str (Azl x++[32]++Azl z++[32]))) (.string (str nm))=some (.string (str (Azl x++[32]++Azl z++[32]++nm))):=AT7 (by simp; omega)
  have hrt:=A9z (s:=Azl x++[32]++Azl z++[32]++nm) (H:=G) (by simp; omega)
  have hz1:Azl x++[32]++Azl z++[32]++nm++[10]=AFz (AMu (nm,x,z)):=by unfold AMu; rw [AJD]; simp
  rw [hz1] at hrt
  have hzl2:(Azq (AFz (AMu (nm,x,z)))).length≤1004:=by rw [AMU]; unfold AMu; rw [AJD]; simp; omega
  have hz2:=List.take_of_length_le (l:=(Azq (AFz (AMu (nm,x,z)))).map by8) (i:=(Azq (AFz (AMu (nm,x,z)))).length) (by simp)
  have hS2:b++Azq (AFz (AMu (nm,x,z)))=AVB ((l.take (i+1)).map AMu):=by rw [hsn,List.map_append,AWQ,List.map_cons,List.map_nil,AW6,hB]
  generalize Azl x++[32]++Azl z++[32]++nm=y4 at *
  generalize Azl x++[32]++Azl z++[32]=y3 at *
  generalize Azl x++[32]++Azl z=y2 at *
  generalize Azl x++[32]=y1 at *
  generalize Azq (AFz (AMu (nm,x,z)))=w at *
  simp -dsimp (disch:=first | assumption | omega | (simp only [AyC];try omega)) only [↓AyG,AyB,AyE,AyF,eq_self,Nat.reduceEqDiff,↓reduceIte,Nat.reduceAdd,reduceCtorEq,hg,↓AIS]
  refine ⟨_,(AZx x hx20).calls rfl fun r hr=>⟨hr,rfl⟩,?_⟩
  simp -dsimp (disch:=first | assumption | omega | (simp only [AyC];try omega)) only [↓AyG,AyB,AyE,AyF,eq_self,Nat.reduceEqDiff,↓reduceIte,Nat.reduceAdd,reduceCtorEq,hg,c1]
  refine ⟨_,(AZx z hz20).calls rfl fun r hr=>⟨hr,rfl⟩,?_⟩
  simp -dsimp (disch:=first | assumption | omega | (simp only [AyC];try omega)) only [↓AyG,AyB,AyE,AyF,eq_self,Nat.reduceEqDiff,↓reduceIte,reduceCtorEq,hg,c2,c3,c4]
  refine AMH (AyJ.mono hrt ?_)
  rintro z9 H2 ⟨j2,v2,rfl,k1,k2,k3,k4⟩
  have hj2:H2[j]?=some (.obj v (.arr b.length 1 (b.map by8))):=by rw [k4 j hjl]; exact hGj
  simp -dsimp (disch:=first | assumption | omega | (simp only [AyC];try omega)) only [↓AyG,AyB,AyE,AyF,eq_self,Nat.reduceEqDiff,↓reduceIte,reduceCtorEq,k1,hz2,hbt,hj2,↓AIW]
  refine AyW (l.length - (i+1)) (by omega) (by simp; omega) ⟨i+1,j,v+1,(b++w).length,b++w,rfl,by omega,hS2,by rw [List.length_append]; omega,hP',?_,by simp; omega,by simp [forget,get]⟩
  rw [List.getElem?_set_self (by omega),List.length_append,List.map_append]
 ·simp -dsimp (disch:=first | assumption | omega | (simp only [AyC];try omega)) only [↓AyG]
  exact no (A9f hr hk he) _
end
section
open Go.RowKit
variable [AyT] [AA7] [AyO] [AyQ]
section
omit [AA7] [AyO] [AyQ]
theorem AWc:∀ {l w x:List UInt8},x∈spl w l→x.length≤w.length+l.length
 | [],w,x,h=>by rw [spl,List.mem_singleton] at h; subst h; simp
 | c::l,w,x,h=>by
  rw [spl] at h
  split at h
  ·rcases List.mem_cons.1 h with rfl | h
   ·simp
   ·have:=AWc h; simp at this ⊢; omega
  ·have:=AWc h; simp at this ⊢; omega
theorem ATk {b x:List UInt8} (h:x∈ACw b):x.length≤b.length:=by
 have:=AWc h
 have:=AQP b
 simp at *; omega
end
theorem AV1 (a b:List UInt8):Azg Tryz.prog 96 [slB a,slB b] (fun x=>x=tb (decide (a=b))):=by
 refine AyJ.toPureV (ARy (by simp) ?_)
 simp -dsimp (disch:=first | assumption | omega) only [↓AyG,AyB,AyE,AyF,eq_self,Nat.reduceEqDiff,↓reduceIte,Nat.reduceAdd,reduceCtorEq,↓ATR]
theorem A4O {b s:List UInt8}:Azg Tryz.prog 66 [slB b,slB s,.val .nilIface] (fun r=>r=if b=s then .val .nilIface else eno 111):=by
 refine AyJ.toPureV (ANJ (by simp) ?_)
 simp -dsimp (disch:=first | assumption | omega | (simp only [AyC];try omega)) only [↓AyG,AyB,AyE,AyF,eq_self,Nat.reduceEqDiff,↓reduceIte,Nat.reduceAdd,reduceCtorEq,↓ALo]
 refine (AV1 b s).calls rfl fun r hr => ?_
 subst hr
 by_cases h:b=s
 ·rw [decide_eq_true h,if_pos h]
  simp -dsimp (disch:=first | assumption | omega | (simp only [AyC];try omega)) only [↓AyG,AyB,AyE,AyF,eq_self,Nat.reduceEqDiff,↓reduceIte,↓AGo]
 ·rw [decide_eq_false h,if_neg h]
  simp -dsimp (disch:=first | assumption | omega | (simp only [AyC];try omega)) only [↓AyG,AyB,AyE,AyF,eq_self,Nat.reduceEqDiff,↓reduceIte,↓AGo]
  rfl
theorem A4J {b:List UInt8} {n:Int}:Azg Tryz.prog 66 [slB b,AEC,eno n] (fun r=>r=eno 111):=by
 refine AyJ.toPureV (ANJ (by simp) ?_)
 simp -dsimp (disch:=first | assumption | omega | (simp only [AyC];try omega)) only [↓AyG,AyB,AyE,AyF,eq_self,Nat.reduceEqDiff,↓reduceIte,Nat.reduceAdd,reduceCtorEq,↓ALo,↓AGo]
 rfl
end
section
open Go.RowKit
variable [AyT] [AA7] [AyO] [AyQ]
def A7M (b:List UInt8) (r:TV):Prop:=(∀ m s,ABF m s b→r=eno 111)∧((∀ m s,¬ ABF m s b)→r=eno 110)
theorem AZs (b:List UInt8) (hb:b.length≤1000000):Azg Tryz.prog 80 [slB b] (A7M b):=by
 refine AyJ.toPureV (ARs (by simp) ?_)
 simp -dsimp (disch:=first | assumption | omega | (simp only [AyC];try omega)) only [↓AyG,AyB,AyE,AyF,eq_self,↓reduceIte,reduceCtorEq,↓AQj,↓AMv]
 refine ABj (fun q e H=>∃ (ls:List (List UInt8)) (rest:List UInt8),q=rest.length∧rest.length≤1000000∧FI b ls rest∧e=[(0,slB rest)]) b.length ⟨[],b,rfl,hb,FI.start,by simp [forget,get]⟩ ?_
 rintro q e H ⟨ls,rest,rfl,hrl,hF,rfl⟩
 simp -dsimp (disch:=first | assumption | omega | (simp only [AyC];try omega)) only [↓AyG,AyB,AyE,AyF,eq_self,↓reduceIte,↓ANA]
 refine (A8g rest hrl).calls rfl fun r hr => ?_
 by_cases hx:∃ x s,x.length≤1000∧Azq x++s=rest
 case neg =>
  have hno:∀ x s,x.length≤1000→Azq x++s≠rest:=fun x s h e=>hx ⟨x,s,h,e⟩
  rw [hr.2 hno]
  simp -dsimp (disch:=first | assumption | omega | (simp only [AyC];try omega)) only [↓AyG,AyB,AyE,AyF,eq_self,Nat.reduceEqDiff,↓reduceIte,↓AKz]
  exact ⟨fun m s k=>by obtain ⟨m',_,h2⟩:=hF.front k; exact absurd h2 (AS2 hno _ _),fun _=>rfl⟩
 obtain ⟨x,s,hx1,hx2⟩:=hx
 rw [hr.1 x s hx1 hx2]
 have hlen:=(AzI hx2).2.2
 by_cases h0:x=[]
 ·subst h0
  have hl0:AXE []=AEC:=rfl
  rw [hl0]
  simp -dsimp (disch:=first | assumption | omega | (simp only [AyC];try omega)) only [↓AyG,AyB,AyE,AyF,eq_self,Nat.reduceEqDiff,↓reduceIte,↓AKz]
  exact ⟨fun m s k=>rfl,fun h=>absurd (hF.done hx2) (h _ _)⟩
 ·have hl0:AXE x=slB x:=if_neg h0
  have hxl:¬ x.length=0:=fun e=>h0 (List.length_eq_zero_iff.1 e)
  rw [hl0]
  simp -dsimp (disch:=first | assumption | omega | (simp only [AyC];try omega)) only [↓AyG,AyB,AyE,AyF,eq_self,Nat.reduceEqDiff,↓reduceIte,hxl]
  exact AyW s.length (by omega) (by simp) ⟨ls++[x],s,rfl,by omega,hF.step hx1 h0 hx2,by simp [forget,get]⟩
theorem A8S {l:List UInt8} (hl:l.length≤1000000) {H:List Ob}:AyJ Tryz.prog 81 [slB l] H (fun x H'=>A0X H l x H'∨(l=[]∧x=AEC∧H'=H)):=by
 refine ARt (by simp) ?_
 have ht:(l.map by8).take l.length=l.map by8:=List.take_of_length_le (by simp)
 by_cases hn:l=[]
 ·subst hn
  simp -dsimp (disch:=first | assumption | omega | (simp only [AyC];try omega)) only [↓AyG,AyB,AyE,AyF,eq_self,↓reduceIte,reduceCtorEq,↓AEt]
  refine AWm ?_ ?_
  ·simp -dsimp (disch:=first | assumption | omega | (simp only [AyC];try omega)) only [↓AyG,AyB,AyE,AyF,eq_self,↓reduceIte,reduceCtorEq,↓AEt]
   exact .inr trivial
  ·simp -dsimp (disch:=first | assumption | omega | (simp only [AyC];try omega)) only [↓AyG,AyB,AyE,AyF,eq_self,Nat.reduceEqDiff,↓reduceIte,reduceCtorEq,↓AEt]
   exact .inl ⟨H.length,1,rfl,by simp,Nat.le_refl _,by simp,fun i hi=>List.getElem?_append_left hi⟩
 ·have hn0:l.length≠0:=fun e=>hn (List.length_eq_zero_iff.1 e)
  simp -dsimp (disch:=first | assumption | omega | (simp only [AyC];try omega)) only [↓AyG,AyB,AyE,AyF,eq_self,Nat.reduceEqDiff,↓reduceIte,reduceCtorEq,↓AEt]
  exact .inl ⟨H.length,1,rfl,by simp,Nat.le_refl _,by simp,fun i hi=>List.getElem?_append_left hi⟩
theorem ADN.argL {P:Program} {f:FuncId} {args args':List TV} {R:TV→Prop} (h:ADN P f args' R) (hc:ASV args args'):ADN P f args R :=
 fun β F w vs hF hv=>h β F w vs hF (hc.rep hv)
theorem AYK {n:Nat} {ls:List (List UInt8)} (h:∀ x∈ls,x.length≤1000∧x≠[]) (hn:ls.length≤n):(AYA ls).length≤n∧∀ c∈AYA ls,c.1.length≤1000∧c.2.1.length=20∧c.2.2.length=20:=by
 unfold AYA
 refine ⟨Nat.le_trans (List.length_filterMap_le _ _) hn,fun c hc => ?_⟩
 obtain ⟨x,hx,hg⟩:=List.mem_filterMap.1 hc
 obtain ⟨h20,a,b,hw,_⟩:=A0e hg
 have:=ATk (show c.1∈ACw x by rw [hw]; simp)
 have:=(h x hx).1
 exact ⟨by omega,h20⟩
theorem FI.count {b rest:List UInt8} {ls:List (List UInt8)} (h:FI b ls rest):4*ls.length≤b.length:=by
 have h1:∀ l:List (List UInt8),4*l.length≤(l.flatMap Azq).length:=fun l=>by
  induction l with
  | nil=>simp
  | cons x l ih=>rw [List.flatMap_cons,List.length_append,AMU,List.length_cons]; omega
 have:=h1 ls
 rw [←h.eq,List.length_append]; omega
theorem AT9 {ls:List (List UInt8)} {x:List UInt8}:AYA (ls++[x])=AYA ls++(match AE2 x with | some c=>[c] | none=>[]):=by
 unfold AYA
 rw [List.filterMap_append]
 cases h:AE2 x<;>simp [h]
theorem ATl:∀ l:List ChD,ADZ (l.map chT)=true
 | []=>rfl
 | r::l=>by
  rw [List.map_cons,ADZ,ATl l]
  simp [chT,AVq,ADZ,AYF]
def AZE (b:List UInt8) (r:TV):Prop:=(∀ l pk,AO5 l→AKf l→puB l pk=b→∃ y,(y=slB pk∨(pk=[]∧y=AEC))∧r = .tup [.sl 41 (l.map chT),y,.val .nilIface])∧((∀ l pk,AO5 l→AKf l→puB l pk≠b)→(∀ ls s,ABF ls s b→r = .tup [AEC,AEC,eno 111])∧((∀ ls s,¬ ABF ls s b)→r = .tup [AEC,AEC,eno 110]))
theorem AKI (s:List UInt8):((ACt s).map by8).length=20:=by
 rw [List.length_map]
 unfold ACt
 split
 ·rename_i h
  have h40:s.length=40:=by unfold ABd at h; simp at h; exact h.1
  exact AB1 (n:=20) h40
 ·rfl
theorem ATb {b:List UInt8} {r:TV} (h:A7M b r):((∃ m s,ABF m s b)∧r=eno 111)∨((∀ m s,¬ ABF m s b)∧r=eno 110):=by
 by_cases k:∃ m s,ABF m s b
 ·obtain ⟨m,s,k⟩:=k
  exact .inl ⟨⟨m,s,k⟩,h.1 m s k⟩
 ·have k':∀ m s,¬ ABF m s b:=fun m s e=>k ⟨m,s,e⟩
  exact .inr ⟨k',h.2 k'⟩
theorem A9B {b x s:List UInt8} {ls:List (List UInt8)} (hF:FI b (ls++[x]) s) (hg:AE2 x=none):((∃ m r,ABF m r s)→AZE b (.tup [AEC,AEC,eno 111]))∧((∀ m r,¬ ABF m r s)→AZE b (.tup [AEC,AEC,eno 110])):=by
 have hno:∀ l pk,AO5 l→AKf l→puB l pk≠b:=fun l pk h1 h2 e=>by
  have hk:ABF ((l.map AMu).map AFz) pk b:=e▸ATH h1 h2
  obtain ⟨m',e1,_⟩:=hF.front hk
  exact (ARe hk h1 h2 e).2.2 x (by rw [e1]; simp) hg
 constructor
 ·rintro ⟨m,r,k⟩
  exact ⟨fun l pk h1 h2 e=>absurd e (hno l pk h1 h2),fun _=>⟨fun _ _ _=>rfl,fun h=>absurd (hF.back k) (h _ _)⟩⟩
 ·intro k
  exact ⟨fun l pk h1 h2 e=>absurd e (hno l pk h1 h2),fun _=>⟨fun m r h=>by obtain ⟨m',_,h2⟩:=hF.front h; exact absurd h2 (k _ _),fun _=>rfl⟩⟩
theorem AY0 (b:List UInt8) (hb:b.length≤70000):ADN Tryz.prog 46 [slB b] (AZE b):=by
 refine AyJ.toFreshV (AP9 (by simp) ?_)
 simp -dsimp (disch:=first | assumption | omega | (simp only [AyC];try omega)) only [↓AyG,AyB,AyE,AyF,eq_self,Nat.reduceEqDiff,↓reduceIte,reduceCtorEq,↓AOC,↓AKq,↓AKs,↓AJm]
 refine ABj (fun q e H=>∃ (k v:Nat) (ls:List (List UInt8)) (rest:List UInt8) (o:List ChD),q=rest.length∧rest.length≤b.length∧FI b ls rest∧o=AYA ls∧(∀ x∈ls,AE2 x≠none)∧1≤H.length∧H[k]?=some (.obj v (.arr o.length 41 (o.map chT)))∧e=[(0,slB b),(5,.os 41 k v [] 0 o.length o.length),(6,slB rest)]) b.length ?_ ?_
 ·exact ⟨0,0,[],b,[],rfl,Nat.le_refl _,FI.start,rfl,by simp,by simp,rfl,by simp [forget,get]⟩
 rintro q e H ⟨k,v,ls,rest,o,rfl,hrl,hF,hO,hgood,h1l,hHk,rfl⟩
 have hcnt:=hF.count
 have hsm:=AYK (n:=17500) hF.ok (by omega)
 rw [←hO] at hsm
 obtain ⟨s1,s2⟩:=hsm
 have hkl:=(List.getElem?_eq_some_iff.1 hHk).1
 have hrt:(o.map chT).take o.length=o.map chT:=List.take_of_length_le (by simp)
 simp -dsimp (disch:=first | assumption | omega | (simp only [AyC];try omega)) only [↓AyG,AyB,AyE,AyF,eq_self,Nat.reduceEqDiff,↓reduceIte,reduceCtorEq,↓ALd]
 refine (A8g rest (by omega)).calls rfl fun r hr => ?_
 by_cases hx:∃ x s,x.length≤1000∧Azq x++s=rest
 case neg =>
  have hno:∀ x s,x.length≤1000→Azq x++s≠rest:=fun x s h e=>hx ⟨x,s,h,e⟩
  rw [hr.2 hno]
  have hnF:∀ m s,¬ ABF m s b:=fun m s k=>by obtain ⟨m',_,h2⟩:=hF.front k; exact absurd h2 (AS2 hno _ _)
  simp -dsimp (disch:=first | assumption | omega | (simp only [AyC];try omega)) only [↓AyG,AyB,AyE,AyF,eq_self,Nat.reduceEqDiff,↓reduceIte,reduceCtorEq,↓ABl,↓AyU]
  exact ⟨fun l pk h1 h2 e=>absurd e (AZW hnF l pk h1 h2),fun _=>⟨fun m s k=>absurd k (hnF m s),fun _=>rfl⟩⟩
 obtain ⟨x,s,hx1,hx2⟩:=hx
 rw [hr.1 x s hx1 hx2]
 clear hr
 have hlen:=(AzI hx2).2.2
 by_cases h0:x=[]
 ·subst h0
  have hl0:AXE []=AEC:=rfl
  have hFr:ABF ls s b:=hF.done hx2
  rw [hl0]
  simp -dsimp (disch:=first | assumption | omega | (simp only [AyC];try omega)) only [↓AyG,AyB,AyE,AyF,eq_self,Nat.reduceEqDiff,↓reduceIte,reduceCtorEq,↓ABl,↓AEp,↓AD7,↓AJP]
  refine AMH (AyJ.mono (A8S (by omega)) ?_)
  intro y H2 hy
  have hfit:AVy o s:=⟨⟨by omega,by omega⟩,fun c hc=>⟨by have:=(s2 c hc).1; omega,(s2 c hc).2⟩⟩
  have fin:∀ z:TV,(z=slB s∨(s=[]∧z=AEC))→AO5 o→puB o s=b→AZE b (.tup [.sl 41 (o.map chT),z,.val .nilIface]):=fun z hz hok hB=>by
   refine ⟨fun l pk h1 h2 e => ?_,fun h=>absurd hB (h _ _ hok fun c hc=>(s2 c hc).2)⟩
   obtain ⟨e1,e2,_⟩:=ARe hFr h1 h2 e
   rw [←hO] at e1
   subst e1 e2
   exact ⟨z,hz,rfl⟩
  have bad:(AO5 o→puB o s≠b)→AZE b (.tup [AEC,AEC,eno 111]):=fun h=>by
   refine ⟨fun l pk h1 h2 e => ?_,fun _=>⟨fun _ _ _=>rfl,fun k=>absurd hFr (k _ _)⟩⟩
   obtain ⟨e1,e2,_⟩:=ARe hFr h1 h2 e
   rw [←hO] at e1
   subst e1 e2
   exact absurd e (h h1)
  rcases hy with ⟨j,vj,rfl,k1,k2,k3,k4⟩ | ⟨hs0,rfl,rfl⟩
  ·have hHk2:H2[k]?=some (.obj v (.arr o.length 41 (o.map chT))):=by rw [k4 k hkl]; exact hHk
   have hst:(s.map by8).take s.length=s.map by8:=List.take_of_length_le (by simp)
   simp -dsimp (disch:=first | assumption | omega | (simp only [AyC];try omega)) only [↓AyG,AyB,AyE,AyF,eq_self,Nat.reduceEqDiff,↓reduceIte,reduceCtorEq,↓ADq]
   refine (AOH o s hfit).lends (args':=[.sl 41 (o.map chT),slB s]) (by simp -dsimp (disch:=first | assumption | omega | (simp only [AyC];try omega)) only [AyE,AyF,eq_self,↓reduceIte,hHk2,hrt,k1,hst]) fun r hr => ?_
   by_cases hok:AO5 o
   ·rw [hr.1 hok]
    clear hr
    simp -dsimp (disch:=first | assumption | omega | (simp only [AyC];try omega)) only [↓AyG,AyB,AyE,AyF,eq_self,Nat.reduceEqDiff,↓reduceIte,reduceCtorEq,↓Az4]
    refine A4O.calls rfl fun r hr => ?_
    subst hr
    by_cases hB:b=puB o s
    ·rw [if_pos hB]
     simp -dsimp (disch:=first | assumption | omega | (simp only [AyC];try omega)) only [↓AyG,AyB,AyE,AyF,eq_self,Nat.reduceEqDiff,↓reduceIte,reduceCtorEq,hHk2,k1,hst,hrt,ATl,↓AyU]
     exact fin _ (.inl rfl) hok hB.symm
    ·rw [if_neg hB]
     simp -dsimp (disch:=first | assumption | omega | (simp only [AyC];try omega)) only [↓AyG,AyB,AyE,AyF,eq_self,Nat.reduceEqDiff,↓reduceIte,reduceCtorEq,↓AyU]
     exact bad fun _ e=>hB e.symm
   ·rw [hr.2 hok]
    clear hr
    simp -dsimp (disch:=first | assumption | omega | (simp only [AyC];try omega)) only [↓AyG,AyB,AyE,AyF,eq_self,Nat.reduceEqDiff,↓reduceIte,reduceCtorEq,↓Az4]
    refine A4J.calls rfl fun r hr => ?_
    subst hr
    simp -dsimp (disch:=first | assumption | omega | (simp only [AyC];try omega)) only [↓AyG,AyB,AyE,AyF,eq_self,Nat.reduceEqDiff,↓reduceIte,reduceCtorEq,↓AyU]
    exact bad fun h=>absurd h hok
  ·simp -dsimp (disch:=first | assumption | omega | (simp only [AyC];try omega)) only [↓AyG,AyB,AyE,AyF,eq_self,Nat.reduceEqDiff,↓reduceIte,reduceCtorEq,↓ADq]
   refine ((AOH o s hfit).argL (args:=[.sl 41 (o.map chT),AEC]) (.cons AYk.refl (.cons (by rw [hs0]; exact AKB) .nil))).lends (args':=[.sl 41 (o.map chT),AEC]) (by simp -dsimp (disch:=first | assumption | omega | (simp only [AyC];try omega)) only [AyE,AyF,eq_self,↓reduceIte,hHk,hrt]) fun r hr => ?_
   by_cases hok:AO5 o
   ·rw [hr.1 hok]
    clear hr
    simp -dsimp (disch:=first | assumption | omega | (simp only [AyC];try omega)) only [↓AyG,AyB,AyE,AyF,eq_self,Nat.reduceEqDiff,↓reduceIte,reduceCtorEq,↓Az4]
    refine A4O.calls rfl fun r hr => ?_
    subst hr
    by_cases hB:b=puB o s
    ·rw [if_pos hB]
     simp -dsimp (disch:=first | assumption | omega | (simp only [AyC];try omega)) only [↓AyG,AyB,AyE,AyF,eq_self,Nat.reduceEqDiff,↓reduceIte,reduceCtorEq,hHk,hrt,ATl,↓AyU]
     exact fin _ (.inr ⟨hs0,rfl⟩) hok hB.symm
    ·rw [if_neg hB]
     simp -dsimp (disch:=first | assumption | omega | (simp only [AyC];try omega)) only [↓AyG,AyB,AyE,AyF,eq_self,Nat.reduceEqDiff,↓reduceIte,reduceCtorEq,↓AyU]
     exact bad fun _ e=>hB e.symm
   ·rw [hr.2 hok]
    clear hr
    simp -dsimp (disch:=first | assumption | omega | (simp only [AyC];try omega)) only [↓AyG,AyB,AyE,AyF,eq_self,Nat.reduceEqDiff,↓reduceIte,reduceCtorEq,↓Az4]
    refine A4J.calls rfl fun r hr => ?_
    subst hr
    simp -dsimp (disch:=first | assumption | omega | (simp only [AyC];try omega)) only [↓AyG,AyB,AyE,AyF,eq_self,Nat.reduceEqDiff,↓reduceIte,reduceCtorEq,↓AyU]
    exact bad fun h=>absurd h hok
 ·have hl0:AXE x=slB x:=if_neg h0
  have hxl:¬ x.length=0:=fun e=>h0 (List.length_eq_zero_iff.1 e)
  have htl:=AQP x
  have hF2:=hF.step hx1 h0 hx2
  rw [hl0]
  simp -dsimp (disch:=first | assumption | omega | (simp only [AyC];try omega)) only [↓AyG,AyB,AyE,AyF,eq_self,Nat.reduceEqDiff,↓reduceIte,reduceCtorEq,hxl,↓ABl,↓AEp,↓AD7,↓AKO]
  refine (A65 x (by omega)).calls rfl fun r hr => ?_
  subst hr
  rw [AZ5]
  simp -dsimp (disch:=first | assumption | omega | (simp only [AyC];try omega)) only [↓AyG,AyB,AyE,AyF,eq_self,↓reduceIte]
  refine (Baq (ABo x) (by omega)).calls rfl fun r hr => ?_
  subst hr
  have hws:spl [] (ABo x)=ACw x:=rfl
  rw [hws]
  have hwl:∀ w∈ACw x,w.length≤x.length:=fun w hw=>ATk hw
  have hsn:=AT9 (ls:=ls) (x:=x)
  rw [←hO] at hsn
  have hA:∀ T:List Ob,(H++T)[k]?=some (.obj v (.arr o.length 41 (o.map chT))):=fun T=>by rw [List.getElem?_append_left hkl]; exact hHk
  rcases ASk x with ⟨h3,hg⟩ | ⟨w0,w1,w2,hw,hc⟩
  ·simp -dsimp (disch:=first | assumption | omega | (simp only [AyC];try omega)) only [↓AyG,AyB,AyE,AyF,eq_self,Nat.reduceEqDiff,↓reduceIte,reduceCtorEq,h3,↓AEl]
   refine (AZs s (by omega)).calls rfl fun r hr => ?_
   have hb2:=A9B hF2 hg
   rcases ATb hr with ⟨hE,rfl⟩ | ⟨hE,rfl⟩
   ·simp -dsimp (disch:=first | assumption | omega | (simp only [AyC];try omega)) only [↓AyG,AyB,AyE,AyF,eq_self,Nat.reduceEqDiff,↓reduceIte,↓AyU]
    exact hb2.1 hE
   ·simp -dsimp (disch:=first | assumption | omega | (simp only [AyC];try omega)) only [↓AyG,AyB,AyE,AyF,eq_self,Nat.reduceEqDiff,↓reduceIte,↓AyU]
    exact hb2.2 hE
  rw [hw] at hwl ⊢
  have hl0':=hwl w0 (by simp)
  have hl1':=hwl w1 (by simp)
  have hl2':=hwl w2 (by simp)
  simp -dsimp (disch:=first | assumption | omega | (simp only [AyC];try omega)) only [↓AyG,AyB,AyE,AyF,eq_self,Nat.reduceEqDiff,↓reduceIte,Nat.reduceAdd,reduceCtorEq,↓AEl,↓AKX]
  refine (A4C w0 (by omega)).calls (by rfl) fun r hr => ?_
  subst hr
  have hp0:=AKI w0
  have hp1:=AKI w1
  simp -dsimp (disch:=first | assumption | omega | (simp only [AyC];try omega)) only [↓AyG,AyB,AyE,AyF,eq_self,Nat.reduceEqDiff,↓reduceIte,reduceCtorEq,↓AKN]
  refine (A4C w1 (by omega)).calls (by rfl) fun r hr => ?_
  subst hr
  rcases hc with ⟨hk,hg⟩ | ⟨hk0,hk1,hg⟩
  ·have hb2:=A9B hF2 hg
   have htk:=AZs s (by omega)
   cases h0:ABd w0 with
   | false =>
    rw [if_neg (show ¬ false=true by simp)]
    simp -dsimp (disch:=first | assumption | omega | (simp only [AyC];try omega)) only [↓AyG,AyB,AyE,AyF,eq_self,Nat.reduceEqDiff,↓reduceIte,reduceCtorEq,↓ABk]
    refine htk.calls rfl fun r hr => ?_
    rcases ATb hr with ⟨hE,rfl⟩ | ⟨hE,rfl⟩
    ·simp -dsimp (disch:=first | assumption | omega | (simp only [AyC];try omega)) only [↓AyG,AyB,AyE,AyF,eq_self,Nat.reduceEqDiff,↓reduceIte,↓AyU]
     exact hb2.1 hE
    ·simp -dsimp (disch:=first | assumption | omega | (simp only [AyC];try omega)) only [↓AyG,AyB,AyE,AyF,eq_self,Nat.reduceEqDiff,↓reduceIte,↓AyU]
     exact hb2.2 hE
   | true =>
    have h1:ABd w1=false:=Bool.eq_false_iff.2 fun h1=>hk ⟨h0,h1⟩
    rw [h1,if_pos rfl,if_neg (by simp)]
    simp -dsimp (disch:=first | assumption | omega | (simp only [AyC];try omega)) only [↓AyG,AyB,AyE,AyF,eq_self,Nat.reduceEqDiff,↓reduceIte,reduceCtorEq,↓ABk]
    refine htk.calls rfl fun r hr => ?_
    rcases ATb hr with ⟨hE,rfl⟩ | ⟨hE,rfl⟩
    ·simp -dsimp (disch:=first | assumption | omega | (simp only [AyC];try omega)) only [↓AyG,AyB,AyE,AyF,eq_self,Nat.reduceEqDiff,↓reduceIte,↓AyU]
     exact hb2.1 hE
    ·simp -dsimp (disch:=first | assumption | omega | (simp only [AyC];try omega)) only [↓AyG,AyB,AyE,AyF,eq_self,Nat.reduceEqDiff,↓reduceIte,↓AyU]
     exact hb2.2 hE
  rw [hk0,hk1,if_pos rfl]
  have e0:ACt w0=AAM w0:=by unfold ACt; rw [if_pos hk0]
  have e1:ACt w1=AAM w1:=by unfold ACt; rw [if_pos hk1]
  rw [e0] at hp0 ⊢
  rw [e1] at hp1 ⊢
  rw [hg] at hsn
  simp only at hsn
  simp -dsimp (disch:=first | assumption | omega | (simp only [AyC];try omega)) only [↓AyG,AyB,AyE,AyF,eq_self,Nat.reduceEqDiff,↓reduceIte,Nat.reduceAdd,reduceCtorEq,Nat.reduceLeDiff,hA,hrt,Bbs,↓ABk]
  have hl1x:(o++[(w2,AAM w0,AAM w1)]).length=o.length+1:=by simp
  refine AyW s.length (by omega) (by simp) ⟨k,v+1,ls++[x],s,o++[(w2,AAM w0,AAM w1)],rfl,by omega,hF2,hsn.symm,fun y hy => ?_,by simp,?_,by rw [hl1x]; simp [forget,get]⟩
  ·rcases List.mem_append.1 hy with hy | hy
   ·exact hgood y hy
   ·rw [List.mem_singleton] at hy; subst hy; rw [hg]; simp
  ·rw [ga (by simp; omega),ga (by simp; omega),ga (by simp; omega),List.getElem?_set_self hkl,hl1x,List.map_append]; rfl
end
section
open Go.RowKit
variable [AyT] [AA7] [AyO] [AyQ]
end
section
open Go.RowKit
variable [AyT] [AA7] [AyO] [AyQ]
def A4K (b:List UInt8) (r:TV):Prop:=(∀ l pk,AO5 l→AKf l→puB l pk=b→r = .tup [.sl 41 (l.map chT),slB pk,i64 ((0:Nat):Int)])∧((∀ l pk,AO5 l→AKf l→puB l pk≠b)→(∀ ls s,ABF ls s b→r = .tup [AEC,AEC,i64 ((111:Nat):Int)])∧((∀ ls s,¬ ABF ls s b)→r = .tup [AEC,AEC,i64 ((110:Nat):Int)]))
theorem AXT (b:List UInt8) (hb:b.length≤70000):Azg Tryz.prog 47 [slB b] (A4K b):=by
 refine AyJ.toPureV (AOD (by simp) ?_)
 simp -dsimp (disch:=first | assumption | omega | (simp only [AyC];try omega)) only [↓AyG,AyB,AyE,AyF,eq_self,Nat.reduceEqDiff,↓reduceIte,reduceCtorEq,↓AMZ,↓AIT,↓AIY,↓AI3]
 refine ABj (fun q e H=>∃ (k v:Nat) (ls:List (List UInt8)) (rest:List UInt8) (o:List ChD),q=rest.length∧rest.length≤b.length∧FI b ls rest∧o=AYA ls∧1≤H.length∧H[k]?=some (.obj v (.arr o.length 41 (o.map chT)))∧e=[(0,slB b),(5,.os 41 k v [] 0 o.length o.length),(6,slB rest)]) b.length ?_ ?_
 ·exact ⟨0,0,[],b,[],rfl,Nat.le_refl _,FI.start,rfl,by simp,rfl,by simp [forget,get]⟩
 rintro q e H ⟨k,v,ls,rest,o,rfl,hrl,hF,hO,h1l,hHk,rfl⟩
 have hcnt:=hF.count
 have hsm:=AYK (n:=17500) hF.ok (by omega)
 rw [←hO] at hsm
 obtain ⟨s1,s2⟩:=hsm
 have hkl:=(List.getElem?_eq_some_iff.1 hHk).1
 have hrt:(o.map chT).take o.length=o.map chT:=List.take_of_length_le (by simp)
 simp -dsimp (disch:=first | assumption | omega | (simp only [AyC];try omega)) only [↓AyG,AyB,AyE,AyF,eq_self,Nat.reduceEqDiff,↓reduceIte,reduceCtorEq,↓AIR]
 refine (A8L rest (by omega)).calls rfl fun r hr => ?_
 by_cases hx:∃ x s,x.length≤1000∧Azq x++s=rest
 case neg =>
  have hno:∀ x s,x.length≤1000→Azq x++s≠rest:=fun x s h e=>hx ⟨x,s,h,e⟩
  rw [hr.2 hno]
  have hnF:∀ m s,¬ ABF m s b:=fun m s k=>by obtain ⟨m',_,h2⟩:=hF.front k; exact absurd h2 (AS2 hno _ _)
  simp -dsimp (disch:=first | assumption | omega | (simp only [AyC];try omega)) only [↓AyG,AyB,AyE,AyF,eq_self,Nat.reduceEqDiff,↓reduceIte,reduceCtorEq,↓ABi,↓ABa]
  exact ⟨fun l pk h1 h2 e=>absurd e (AZW hnF l pk h1 h2),fun _=>⟨fun m s k=>absurd k (hnF m s),fun _=>rfl⟩⟩
 obtain ⟨x,s,hx1,hx2⟩:=hx
 rw [hr.1 x s hx1 hx2]
 clear hr
 have hlen:=(AzI hx2).2.2
 by_cases h0:x=[]
 ·subst h0
  have hFr:ABF ls s b:=hF.done hx2
  have hfit:AVy o s:=⟨⟨by omega,by omega⟩,fun c hc=>⟨by have:=(s2 c hc).1; omega,(s2 c hc).2⟩⟩
  have bad:(AO5 o→puB o s≠b)→A4K b (.tup [AEC,AEC,i64 ((111:Nat):Int)]):=fun h=>by
   refine ⟨fun l pk h1 h2 e => ?_,fun _=>⟨fun _ _ _=>rfl,fun k=>absurd hFr (k _ _)⟩⟩
   obtain ⟨e1,e2,_⟩:=ARe hFr h1 h2 e
   rw [←hO] at e1
   subst e1 e2
   exact absurd e (h h1)
  simp -dsimp (disch:=first | assumption | omega | (simp only [AyC];try omega)) only [↓AyG,AyB,AyE,AyF,eq_self,Nat.reduceEqDiff,↓reduceIte,reduceCtorEq,↓ABi,↓ADp,↓ADu,↓AI1]
  refine (AQo o s hfit).lends (args':=[.sl 41 (o.map chT),slB s]) (by simp -dsimp (disch:=first | assumption | omega | (simp only [AyC];try omega)) only [AyE,AyF,eq_self,↓reduceIte,hHk,hrt]) fun r hr => ?_
  by_cases hok:AO5 o
  ·rw [hr.1 hok]
   clear hr
   by_cases hB:puB o s=b
   ·have hBt:(puB o s=b)=True:=eq_true hB
    simp -dsimp (disch:=first | assumption | omega | (simp only [AyC];try omega)) only [↓AyG,AyB,AyE,AyF,eq_self,Nat.reduceEqDiff,↓reduceIte,reduceCtorEq,hBt,hHk,hrt,↓AA3,↓ABa]
    refine ⟨fun l pk h1 h2 e => ?_,fun h=>absurd hB (h _ _ hok fun c hc=>(s2 c hc).2)⟩
    obtain ⟨e1,e2,_⟩:=ARe hFr h1 h2 e
    rw [←hO] at e1
    subst e1 e2
    rfl
   ·simp -dsimp (disch:=first | assumption | omega | (simp only [AyC];try omega)) only [↓AyG,AyB,AyE,AyF,eq_self,Nat.reduceEqDiff,↓reduceIte,reduceCtorEq,hB,↓AA3,↓ABa]
    exact bad fun _=>hB
  ·rw [hr.2 hok]
   clear hr
   simp -dsimp (disch:=first | assumption | omega | (simp only [AyC];try omega)) only [↓AyG,AyB,AyE,AyF,eq_self,Nat.reduceEqDiff,↓reduceIte,reduceCtorEq,↓AA3,↓ABa]
   exact bad fun h=>absurd h hok
 ·have hxl:¬ x.length=0:=fun e=>h0 (List.length_eq_zero_iff.1 e)
  have hF2:=hF.step hx1 h0 hx2
  have hwl:∀ w∈ACw x,w.length≤x.length:=fun w hw=>ATk hw
  have hsn:=AT9 (ls:=ls) (x:=x)
  rw [←hO] at hsn
  have hA:∀ T:List Ob,(H++T)[k]?=some (.obj v (.arr o.length 41 (o.map chT))):=fun T=>by rw [List.getElem?_append_left hkl]; exact hHk
  have hgc:=ASk x
  simp -dsimp (disch:=first | assumption | omega | (simp only [AyC];try omega)) only [↓AyG,AyB,AyE,AyF,eq_self,Nat.reduceEqDiff,↓reduceIte,reduceCtorEq,hxl,↓ABi,↓ADp,↓ADu,↓AKo]
  refine (Bah x (by omega)).calls rfl fun r hr => ?_
  subst hr
  rcases hgc with ⟨h3,hg⟩ | ⟨w0,w1,w2,hw,hc⟩
  ·rw [hg,List.append_nil] at hsn
   simp -dsimp (disch:=first | assumption | omega | (simp only [AyC];try omega)) only [↓AyG,AyB,AyE,AyF,eq_self,Nat.reduceEqDiff,↓reduceIte,reduceCtorEq,h3,↓ADG]
   exact AyW s.length (by omega) h1l ⟨k,v,ls++[x],s,o,rfl,by omega,hF2,hsn.symm,h1l,hHk,by simp [forget,get]⟩
  rw [hw] at hwl ⊢
  have hl0':=hwl w0 (by simp)
  have hl1':=hwl w1 (by simp)
  have hl2':=hwl w2 (by simp)
  have hp0:=AKI w0
  have hp1:=AKI w1
  simp -dsimp (disch:=first | assumption | omega | (simp only [AyC];try omega)) only [↓AyG,AyB,AyE,AyF,eq_self,Nat.reduceEqDiff,↓reduceIte,Nat.reduceAdd,reduceCtorEq,↓ADG,↓AJ5]
  refine (AUt w0 (by omega)).calls (by rfl) fun r hr => ?_
  subst hr
  simp -dsimp (disch:=first | assumption | omega | (simp only [AyC];try omega)) only [↓AyG,AyB,AyE,AyF,eq_self,Nat.reduceEqDiff,↓reduceIte,reduceCtorEq,↓AJt]
  refine (AUt w1 (by omega)).calls (by rfl) fun r hr => ?_
  subst hr
  rcases hc with ⟨hk,hg⟩ | ⟨hk0,hk1,hg⟩
  ·rw [hg,List.append_nil] at hsn
   cases h0:ABd w0 with
   | false =>
    simp -dsimp (disch:=first | assumption | omega | (simp only [AyC];try omega)) only [↓AyG,AyB,AyE,AyF,eq_self,Nat.reduceEqDiff,↓reduceIte,reduceCtorEq,↓ABe]
    exact AyW s.length (by omega) (by simp) ⟨k,v,ls++[x],s,o,rfl,by omega,hF2,hsn.symm,by simp,by rw [ga (by simp; omega),ga hkl]; exact hHk,by simp [forget,get]⟩
   | true =>
    have h1:ABd w1=false:=Bool.eq_false_iff.2 fun h1=>hk ⟨h0,h1⟩
    rw [h1]
    simp -dsimp (disch:=first | assumption | omega | (simp only [AyC];try omega)) only [↓AyG,AyB,AyE,AyF,eq_self,Nat.reduceEqDiff,↓reduceIte,reduceCtorEq,↓ABe]
    exact AyW s.length (by omega) (by simp) ⟨k,v,ls++[x],s,o,rfl,by omega,hF2,hsn.symm,by simp,by rw [ga (by simp; omega),ga hkl]; exact hHk,by simp [forget,get]⟩
  rw [hk0,hk1]
  have e0:ACt w0=AAM w0:=by unfold ACt; rw [if_pos hk0]
  have e1:ACt w1=AAM w1:=by unfold ACt; rw [if_pos hk1]
  rw [e0] at hp0 ⊢
  rw [e1] at hp1 ⊢
  rw [hg] at hsn
  simp only at hsn
  simp -dsimp (disch:=first | assumption | omega | (simp only [AyC];try omega)) only [↓AyG,AyB,AyE,AyF,eq_self,Nat.reduceEqDiff,↓reduceIte,Nat.reduceAdd,reduceCtorEq,Nat.reduceLeDiff,hA,hrt,Bbs,↓ABe,↓AJc]
  have hl1x:(o++[(w2,AAM w0,AAM w1)]).length=o.length+1:=by simp
  refine AyW s.length (by omega) (by simp) ⟨k,v+1,ls++[x],s,o++[(w2,AAM w0,AAM w1)],rfl,by omega,hF2,hsn.symm,by simp,?_,by rw [hl1x]; simp [forget,get]⟩
  rw [ga (by simp; omega),ga (by simp; omega),ga (by simp; omega),List.getElem?_set_self hkl,hl1x,List.map_append]; rfl
end
section
open Go.RowKit
variable [AyT]
theorem AYN {l m:List UInt8} {k:Nat} (h:l.take k=m.take k) (h1:k<l.length) (h2:k<m.length) (e:l[k]=m[k]):l.take (k+1)=m.take (k+1):=by
 rw [List.take_succ_eq_append_getElem h1,List.take_succ_eq_append_getElem h2,h,e]
theorem Bbk {x y:UInt8} (h:x≠y):¬ (x.toNat=y.toNat):=fun e=>h (UInt8.toNat_inj.1 e)
theorem same (l m:List UInt8) (hl:l.length≤9223372036854775807) (hm:m.length≤9223372036854775807):Azg Tryz.prog 10 [slB l,slB m] (fun x=>x=tb (decide (l=m))):=by
 refine AyJ.toPureV (AUa (by simp) ?_)
 by_cases hlen:l.length=m.length
 case neg =>
  have hne:l≠m:=fun e=>hlen (by rw [e])
  simp -dsimp (disch:=first | assumption | omega) only [↓AyG,AyB,AyE,AyF,eq_self,Nat.reduceEqDiff,↓reduceIte,Nat.reduceAdd,reduceCtorEq,↓AFl,decide_eq_false hne]
 simp -dsimp (disch:=first | assumption | omega) only [↓AyG,AyB,AyE,AyF,eq_self,Nat.reduceEqDiff,↓reduceIte,Nat.reduceAdd,reduceCtorEq,↓AFl]
 refine ABj (fun n e H=>∃ (k:Nat),n=l.length - k∧k≤l.length∧l.take k=m.take k∧e=[(0,slB l),(1,slB m),(5,i64 (k:Int))]∧H=[]) l.length ?_ ?_
 ·exact ⟨0,by simp,by omega,by simp,rfl,rfl⟩
 ·rintro n e H ⟨k,rfl,hk,ht,rfl,rfl⟩
  by_cases hkl:k<l.length
  ·have hkm:k<m.length:=by omega
   have g1:l[k]?=some l[k]:=by simp [hkl]
   have g2:m[k]?=some m[k]:=by simp [hkm]
   by_cases he:l[k]=m[k]
   ·have hx:=AYN ht hkl hkm he
    have he':l[k].toNat=m[k].toNat:=by rw [he]
    simp -dsimp (disch:=first | assumption | omega) only [↓AyG,AyB,AyE,AyF,eq_self,Nat.reduceEqDiff,↓reduceIte,reduceCtorEq,↓AFl,g1,g2]
    exact AyW (l.length - (k+1)) (by omega) (by simp) ⟨k+1,rfl,by omega,hx,rfl,rfl⟩
   ·have he':=Bbk he
    have hne:l≠m:=fun e=>he (by subst e; rfl)
    simp -dsimp (disch:=first | assumption | omega) only [↓AyG,AyB,AyE,AyF,eq_self,Nat.reduceEqDiff,↓reduceIte,reduceCtorEq,↓AFl,g1,g2,decide_eq_false hne]
  ·have hke:k=l.length:=by omega
   have heq:l=m:=by rw [hke,List.take_length,hlen,List.take_length] at ht; exact ht
   simp -dsimp (disch:=first | assumption | omega) only [↓AyG,AyB,AyE,AyF,eq_self,Nat.reduceEqDiff,↓reduceIte,reduceCtorEq,↓AFl,decide_eq_true heq]
theorem A9I (l:List UInt8) (hl:l.length≤1000000) {H:List Ob} {K:TV→List Ob→Prop} (hk:K (.os 1 H.length 0 [] 0 l.length (l.length+2)) (H++[.obj 0 (.arr (l.length+2) 1 ((l++[71,72]).map by8))])) :
  AyJ Tryz.prog 17 [slB l] H K:=by
 refine ATs (by simp) ?_
 have c2:((l.length:Int)+2)=((l.length+2:Nat):Int):=by omega
 have b1:((1:Nat):Int)*((l.length+2:Nat):Int)≤281474976710656:=by omega
 have b2:((l.length+2:Nat):Int)≤9223372036854775807:=by omega
 have z:∀ n:Nat,List.replicate n (TV.val (.int .u8 ((0:Nat):Int)))=(List.replicate n (0:UInt8)).map by8:=fun n=>by rw [List.map_replicate]; rfl
 have e1:List.map by8 l++List.drop (min l.length (l.length+2)) (List.replicate (l.length+2) (TV.val (.int .u8 ((0:Nat):Int))))=(l++[0,0]).map by8:=by
  rw [z,←List.map_drop,←List.map_append,Nat.min_eq_left (by omega),List.drop_replicate,show l.length+2 - l.length=2 from by omega]; rfl
 have e2:((l++[0,0]).map by8).set l.length (.val (.int .u8 ((71:Nat):Int)))=(l++[71,0]).map by8:=by
  rw [List.map_append,List.set_append_right _ _ (by simp),List.map_append]; simp
 have e3:((l++[71,0]).map by8).set (l.length+1) (.val (.int .u8 ((72:Nat):Int)))=(l++[71,72]).map by8:=by
  rw [List.map_append,List.set_append_right _ _ (by simp),List.map_append]; simp
 have g1:((l++[0,0]).map by8)[l.length]?=some (by8 0):=by simp
 have g2:((l++[71,0]).map by8)[l.length+1]?=some (by8 0):=by simp
 simp -dsimp (disch:=first | assumption | omega | (simp only [AyC];try omega)) only [↓AyG,AyB,AyE,AyF,eq_self,Nat.reduceEqDiff,↓reduceIte,reduceCtorEq,Nat.reduceLeDiff,↓AUh,e1,e2,e3,g1,g2]
 exact hk
abbrev x85 (l:List UInt8):List UInt8:=l.map (· ^^^ 85)
theorem A2h {c:List UInt8} {k:Nat} (hk:k<c.length):(x85 (c.take k)++c.drop k).set k (c[k] ^^^ 85)=x85 (c.take (k+1))++c.drop (k+1):=by
 have h1:(x85 (c.take k)).length=k:=by simp; omega
 rw [List.set_append_right _ _ (by omega),h1,Nat.sub_self,List.drop_eq_getElem_cons hk,List.set_cons_zero,List.take_succ_eq_append_getElem hk,x85,x85,List.map_append,List.append_assoc]
 rfl
theorem AS4 (l:List UInt8) (hl:l.length≤1000000) {H:List Ob} {id ver:Nat} {K:TV→List Ob→Prop} (ho:H[id]?=some (.obj ver (.arr (l.length+2) 1 ((l++[71,72]).map by8))))
  (hk:K (tb true) (H.set id (.obj ver (.arr (l.length+2) 1 ((x85 (l++[71,72])).map by8))))) :
  AyJ Tryz.prog 19 [.os 1 id ver [] 0 l.length (l.length+2),slB l] H K:=by
 refine ASO (by simp) ?_
 have hid:id<H.length:=(List.getElem?_eq_some_iff.1 ho).1
 have c2:((l.length:Int)+2)=((l.length+2:Nat):Int):=by omega
 have g1:(l++[71,72])[l.length]?=some 71:=by simp
 have g2:(l++[71,72])[l.length+1]?=some 72:=by simp
 have hL:(l++[71,72]).length=l.length+2:=by simp
 have ht:(l++[71,72]).take l.length=l:=by simp
 generalize hc:l++[71,72]=c at *
 simp -dsimp (disch:=first | assumption | omega | (simp only [AyC];try omega)) only [↓AyG,AyB,AyE,AyF,eq_self,Nat.reduceEqDiff,↓reduceIte,Nat.reduceAdd,reduceCtorEq,Nat.reduceLeDiff,↓AFE]
 refine (same l l (by omega) (by omega)).lends (args':=[slB l,slB l]) (by simp -dsimp (disch:=first | assumption | omega) only [AyE,AyF,eq_self,↓reduceIte,ho,hL,ht]) ?_
 rintro x rfl
 refine ⟨rfl,?_⟩
 rw [show tb (decide (l=l))=tb true from by simp]
 simp -dsimp (disch:=first | assumption | omega | (simp only [AyC];try omega)) only [↓AyG,AyB,AyE,AyF,eq_self,Nat.reduceEqDiff,UInt8.reduceToNat,↓reduceIte,↓AFE,ho,g1,g2]
 ·refine ABj (fun n e H'=>∃ (k:Nat),n=c.length - k∧k≤c.length∧e=[(6,.os 1 id ver [] 0 (l.length+2) (l.length+2)),(7,tb true),(8,i64 (k:Int))]∧H'=H.set id (.obj ver (.arr (l.length+2) 1 ((x85 (c.take k)++c.drop k).map by8)))) c.length ?_ ?_
  ·refine ⟨0,by simp,by omega,rfl,?_⟩
   have e0:x85 (c.take 0)++c.drop 0=c:=by simp
   obtain ⟨h1,h2⟩:=List.getElem?_eq_some_iff.1 ho
   rw [e0,←h2,List.set_getElem_self]
  ·rintro n e H' ⟨k,rfl,hkl,rfl,rfl⟩
   have gs:∀ o,(H.set id o)[id]?=some o:=fun o=>by simp [hid]
   by_cases hkc:k<c.length
   ·have hk2:k<l.length+2:=by omega
    have hlen:(x85 (c.take k)).length=k:=by simp; omega
    have g3:(x85 (c.take k)++c.drop k)[k]?=some c[k]:=by
     rw [List.getElem?_append_right (by omega),hlen,Nat.sub_self,List.getElem?_drop]; simp [hkc]
    have g4:=A2h hkc
    have h85:∀ (t:TypeId) (x:UInt8),AAL t .xor (.int .u8 (x.toNat:Int)) (.int .u8 ((85:Nat):Int))=some (.int .u8 ((x ^^^ 85).toNat:Int)):=fun t x=>A4T (t:=t) (x:=x) (y:=85)
    generalize x85 (c.take k)++c.drop k=r at *
    generalize c[k]=y at *
    simp -dsimp (disch:=first | assumption | omega | (simp only [AyC];try omega)) only [↓AyG,AyB,AyE,AyF,eq_self,Nat.reduceEqDiff,↓reduceIte,↓AFE,gs,g3,g4,h85,A1K]
    exact AyW (c.length - (k+1)) (by omega) (by simp) ⟨k+1,rfl,by omega,rfl,rfl⟩
   ·have hke:k=c.length:=by omega
    have hk2:¬ k<l.length+2:=by omega
    have e0:x85 (c.take k)++c.drop k=x85 c:=by rw [hke,List.take_length,List.drop_length,List.append_nil]
    have e1:List.drop k c=[]:=by rw [hke,List.drop_length]
    simp -dsimp (disch:=first | assumption | omega | (simp only [AyC];try omega)) only [↓AyG,AyB,AyE,AyF,eq_self,Nat.reduceEqDiff,↓reduceIte,↓AFE]
    rw [e1,List.append_nil]
    exact hk
end
section
open Go.RowKit
variable [AyT] [AzH] [AyO] [AyQ] [AA7]
theorem AVu (l:List ChD) (hn:l.length≤100000) (h20:AKf l):ADN Tryz.prog 20 [.sl 41 (l.map chT)] (fun r=>r = .sl 41 (l.map chT)):=by
 refine AyJ.toFreshV (APX (by simp) ?_)
 simp -dsimp (disch:=first | assumption | omega | (simp only [AyC];try omega)) only [↓AyG,AyB,AyE,AyF,eq_self,Nat.reduceEqDiff,↓reduceIte,reduceCtorEq,↓AOQ,↓AKT,↓AKU,↓AK3]
 refine ABj (fun q e H=>∃ (i k v:Nat),q=l.length - i∧i≤l.length∧1≤H.length∧H[k]?=some (.obj v (.arr i 41 ((l.take i).map chT)))∧e=[(0,.sl 41 (l.map chT)),(3,.os 41 k v [] 0 i i),(4,i64 (i:Int))]) l.length ?_ ?_
 ·exact ⟨0,0,0,rfl,Nat.zero_le _,by simp,rfl,by simp [forget,get]⟩
 rintro q e H ⟨i,k,v,rfl,hi,h1l,hHk,rfl⟩
 have hkl:=(List.getElem?_eq_some_iff.1 hHk).1
 have hl:((l.take i).map chT).length=i:=by rw [List.length_map,List.length_take,Nat.min_eq_left hi]
 have hrt:((l.take i).map chT).take i=(l.take i).map chT:=List.take_of_length_le (by omega)
 by_cases hil:i<l.length
 case neg =>
  have hi2:i=l.length:=by omega
  rw [List.take_of_length_le (by omega)] at hrt hHk hl
  simp -dsimp (disch:=first | assumption | omega | (simp only [AyC];try omega)) only [↓AyG,AyB,AyE,AyF,eq_self,Nat.reduceEqDiff,↓reduceIte,reduceCtorEq,hHk,hl,ATl,↓AD8,↓AKY,↓AOs]
 obtain ⟨⟨nm,x,z⟩,hr⟩:∃ r,l[i]?=some r:=⟨_,List.getElem?_eq_getElem hil⟩
 have hid:=h20 _ (List.mem_of_getElem? hr)
 simp only at hid
 have hx':(x.map by8).length=20:=by rw [List.length_map]; exact hid.1
 have hz':(z.map by8).length=20:=by rw [List.length_map]; exact hid.2
 have hg:(l.map chT)[i]?=some (.agg [ts nm,.arr 20 1 (x.map by8),.arr 20 1 (z.map by8)]):=by rw [List.getElem?_map,hr]; rfl
 have hsn:(l.take (i+1)).map chT=(l.take i).map chT++[.agg [ts nm,.arr 20 1 (x.map by8),.arr 20 1 (z.map by8)]]:=by rw [List.take_add_one,hr,List.map_append]; rfl
 have hA:∀ T:List Ob,(H++T)[k]?=some (.obj v (.arr i 41 ((l.take i).map chT))):=fun T=>by rw [List.getElem?_append_left hkl]; exact hHk
 simp -dsimp (disch:=first | assumption | omega | (simp only [AyC];try omega)) only [↓AyG,AyB,AyE,AyF,eq_self,Nat.reduceEqDiff,↓reduceIte,Nat.reduceAdd,reduceCtorEq,Nat.reduceLeDiff,hg,hA,hl,Bbs,↓AD8,↓ALi]
 refine AyW (l.length - (i+1)) (by omega) (by simp<;>omega) ⟨i+1,k,v+1,rfl,by omega,by simp<;>omega,?_,by simp [forget,get]⟩
 rw [ga (by simp<;>omega),List.getElem?_set_self hkl,hsn]
theorem A5h {l:List ChD} {pk:List UInt8} (h:AO5 l) (h20:AKf l) (hn:l.length≤60) (hp:pk.length≤6000):(puB l pk).length≤70000:=by
 have h1:=A1u (wss:=l.map AMu) fun ws hw=>by obtain ⟨s,hs,rfl⟩:=List.mem_map.1 hw; exact (ATm (h.2 s hs) (h20 s hs)).2
 rw [List.length_map] at h1
 unfold puB
 rw [List.length_append,List.length_append]
 show _+4+_≤_
 omega
theorem A1g (b:List UInt8) (hb:b.length≤70000):Azg Tryz.prog 22 [slB b] (fun r=>r=tb true):=by
 refine AyJ.toPureV (ARb (by simp) ?_)
 have htk2:((b++[71,72]).map by8).take b.length=b.map by8:=by rw [List.map_append,List.take_append_of_le_length (by simp),List.take_of_length_le (by simp)]
 have hrd:=AXT b (by omega)
 have hun:∀ l:List UInt8,(l.map by8).map AN4=l:=fun l=>by
  rw [List.map_map]
  conv=>rhs; rw [←List.map_id l]
  exact List.map_congr_left fun x _=>by simp [AN4]
 simp -dsimp (disch:=first | assumption | omega | (simp only [AyC];try omega)) only [↓AyG,AyB,AyE,AyF,eq_self,↓reduceIte,reduceCtorEq,↓APV,↓AK2]
 refine AMH (A9I b (by omega) ?_)
 simp -dsimp (disch:=first | assumption | omega | (simp only [AyC];try omega)) only [↓AyG,AyB,AyE,AyF,eq_self,↓reduceIte,reduceCtorEq,↓ALg]
 refine (AY0 b (by omega)).lends (args':=[slB b]) (by simp -dsimp (disch:=first | assumption | omega | (simp only [AyC];try omega)) only [AyE,AyF,eq_self,↓reduceIte,Nat.reduceAdd,htk2]) fun r hr => ?_
 by_cases h:∃ l pk,AO5 l∧AKf l∧puB l pk=b
 ·obtain ⟨l,pk,h1,h2,e⟩:=h
  obtain ⟨y,hy,rfl⟩:=hr.1 _ _ h1 h2 e
  have h500:=h1.1.2
  have r1:=hrd.mono fun r hr=>hr.1 _ _ h1 h2 e
  have hpl:pk.length≤70000:=by
   have:=congrArg List.length e
   unfold puB at this
   rw [List.length_append] at this
   omega
  have hsame:Azg Tryz.prog 10 [y,slB pk] (fun x=>x=tb true):=by
   rcases hy with rfl | ⟨rfl,rfl⟩
   ·refine (same pk pk (by omega) (by omega)).mono fun x hx => ?_
    rw [hx,decide_eq_true rfl]
   ·refine ((same [] [] (by simp) (by simp)).argL (.cons AKB (.cons AYk.refl .nil))).mono fun x hx => ?_
    rw [hx,decide_eq_true rfl]
  have hyp:AAS y=true∧AyL y=1∧lays y=true∧AMp y=false∧AzF y=false:=by
   rcases hy with rfl | ⟨_,rfl⟩<;>exact ⟨rfl,rfl,rfl,rfl,rfl⟩
  obtain ⟨y1,y2,y3,y4,y5⟩:=hyp
  have hyp2:AzQ [y,slB pk]=true:=by rcases hy with rfl | ⟨_,rfl⟩<;>rfl
  simp -dsimp (disch:=first | assumption | omega | (simp only [AyC];try omega)) only [↓AyG,AyB,AyE,AyF,eq_self,Nat.reduceEqDiff,↓reduceIte,reduceCtorEq,↓AFe]
  refine AMH (AS4 b (by omega) rfl ?_)
  simp -dsimp (disch:=first | assumption | omega | (simp only [AyC];try omega)) only [↓AyG,AyB,AyE,AyF,eq_self,Nat.reduceEqDiff,↓reduceIte,reduceCtorEq,↓AET]
  refine r1.calls rfl fun r hr => ?_
  subst hr
  simp -dsimp (disch:=first | assumption | omega | (simp only [AyC];try omega)) only [↓AyG,AyB,AyE,AyF,eq_self,Nat.reduceEqDiff,↓reduceIte,reduceCtorEq,y5,↓AES]
  refine hsame.calls hyp2 fun r hr => ?_
  subst hr
  simp -dsimp (disch:=first | assumption | omega | (simp only [AyC];try omega)) only [↓AyG,AyB,AyE,AyF,eq_self,Nat.reduceEqDiff,↓reduceIte,↓AEJ]
  refine A74.calls rfl fun r hr => ?_
  subst hr
  simp -dsimp (disch:=first | assumption | omega | (simp only [AyC];try omega)) only [↓AyG,AyB,AyE,AyF,eq_self,Nat.reduceEqDiff,↓reduceIte,↓AFp,↓AEW]
  refine ABj (fun q e H=>∃ (i:Nat),q=l.length - i∧i≤l.length∧1≤H.length∧e=[(4,.sl 41 (l.map chT)),(8,.sl 41 (l.map chT)),(12,i64 (i:Int))]) l.length ?_ ?_
  ·exact ⟨0,rfl,Nat.zero_le _,by simp,by simp [forget,get]⟩
  rintro q e H ⟨i,rfl,hi,h1l,rfl⟩
  by_cases hil:i<l.length
  case neg=>simp -dsimp (disch:=first | assumption | omega | (simp only [AyC];try omega)) only [↓AyG,AyB,AyE,AyF,eq_self,Nat.reduceEqDiff,↓reduceIte,↓ABt,↓AEO,↓AIk]
  obtain ⟨⟨nm,x,z⟩,hr⟩:∃ r,l[i]?=some r:=⟨_,List.getElem?_eq_getElem hil⟩
  have hid:=h2 _ (List.mem_of_getElem? hr)
  simp only at hid
  have hx':(x.map by8).length=20:=by rw [List.length_map]; exact hid.1
  have hz':(z.map by8).length=20:=by rw [List.length_map]; exact hid.2
  have hg:(l.map chT)[i]?=some (.agg [ts nm,.arr 20 1 (x.map by8),.arr 20 1 (z.map by8)]):=by rw [List.getElem?_map,hr]; rfl
  simp -dsimp (disch:=first | assumption | omega | (simp only [AyC];try omega)) only [↓AyG,AyB,AyE,AyF,eq_self,Nat.reduceEqDiff,↓reduceIte,Nat.reduceAdd,hg,beq_self_eq_true,↓ABt,↓AMb]
  exact AyW (l.length - (i+1)) (by omega) h1l ⟨i+1,rfl,by omega,h1l,by simp [forget,get]⟩
 ·have hno:∀ l pk,AO5 l→AKf l→puB l pk≠b:=fun l pk h1 h2 e=>h ⟨l,pk,h1,h2,e⟩
  obtain ⟨n,hn,hrn⟩:∃ n:Nat,r = .tup [AEC,AEC,eno (n:Int)]∧Azg Tryz.prog 47 [slB b] (fun r=>r = .tup [AEC,AEC,i64 (n:Int)]):=by
   by_cases hL:∃ ls s,ABF ls s b
   ·obtain ⟨ls,s,hls⟩:=hL
    exact ⟨111,(hr.2 hno).1 ls s hls,hrd.mono fun r h=>(h.2 hno).1 ls s hls⟩
   ·have hL':∀ ls s,¬ ABF ls s b:=fun ls s h=>hL ⟨ls,s,h⟩
    exact ⟨110,(hr.2 hno).2 hL',hrd.mono fun r h=>(h.2 hno).2 hL'⟩
  subst hn
  simp -dsimp (disch:=first | assumption | omega | (simp only [AyC];try omega)) only [↓AyG,AyB,AyE,AyF,eq_self,Nat.reduceEqDiff,↓reduceIte,reduceCtorEq,↓AFe]
  refine AMH (AS4 b (by omega) rfl ?_)
  simp -dsimp (disch:=first | assumption | omega | (simp only [AyC];try omega)) only [↓AyG,AyB,AyE,AyF,eq_self,Nat.reduceEqDiff,↓reduceIte,reduceCtorEq,↓AET]
  refine hrn.calls rfl fun r hr => ?_
  subst hr
  simp -dsimp (disch:=first | assumption | omega | (simp only [AyC];try omega)) only [↓AyG,AyB,AyE,AyF,eq_self,Nat.reduceEqDiff,↓reduceIte,reduceCtorEq,↓AES]
  refine ((same [] [] (by simp) (by simp)).argL (.cons AKB (.cons AKB .nil))).calls rfl fun r hr => ?_
  subst hr
  simp -dsimp (disch:=first | assumption | omega | (simp only [AyC];try omega)) only [↓AyG,AyB,AyE,AyF,eq_self,Nat.reduceEqDiff,↓reduceIte,↓AEJ]
  refine Bdt.calls rfl fun r hr => ?_
  subst hr
  simp -dsimp (disch:=first | assumption | omega | (simp only [AyC];try omega)) only [↓AyG,AyB,AyE,AyF,eq_self,Nat.reduceEqDiff,↓reduceIte,↓AFp,↓AEW]
  refine ABj (fun q e H=>1≤H.length∧e=[(4,AEC),(8,AEC),(12,i64 ((0:Nat):Int))]) 0 ⟨by simp,by simp [forget,get]⟩ ?_
  rintro q e H ⟨_,rfl⟩
  simp -dsimp (disch:=first | assumption | omega | (simp only [AyC];try omega)) only [↓AyG,AyB,AyE,AyF,eq_self,Nat.reduceLT,Nat.reduceEqDiff,↓reduceIte,↓ABt,↓AEO,↓AIk]
theorem A0c (l:List ChD) (pk b:List UInt8) (hl:l.length≤140737488351232) (hr:∀ c∈l,c.1.length≤2000000∧c.2.1.length=20∧c.2.2.length=20) (hpk:pk.length≤140737488351232) (hb:b.length≤140737488351232):Azg Tryz.prog 5 [.sl 41 (l.map chT),slB pk,slB b] (fun r=>r=tb true):=by
 refine AyJ.toPureV (AMq (by simp) ?_)
 simp -dsimp (disch:=first | assumption | omega | (simp only [AyC];try omega)) only [↓AyG,AyB,AyE,AyF,eq_self,Nat.reduceEqDiff,↓reduceIte,Nat.reduceAdd,reduceCtorEq,↓AKZ,↓AGK]
 by_cases h60:60<l.length
 ·simp -dsimp (disch:=first | assumption | omega | (simp only [AyC];try omega)) only [↓AyG,AyB,AyE,AyF,eq_self,Nat.reduceEqDiff,↓reduceIte,reduceCtorEq,↓AzK]
 by_cases hl1:6000<pk.length
 ·simp -dsimp (disch:=first | assumption | omega | (simp only [AyC];try omega)) only [↓AyG,AyB,AyE,AyF,eq_self,Nat.reduceEqDiff,↓reduceIte,reduceCtorEq,↓AzK]
 by_cases hl2:6000<b.length
 ·simp -dsimp (disch:=first | assumption | omega | (simp only [AyC];try omega)) only [↓AyG,AyB,AyE,AyF,eq_self,Nat.reduceEqDiff,↓reduceIte,reduceCtorEq,↓AzK]
 have h20:AKf l:=fun c hc=>(hr c hc).2
 have hfit:AVy l pk:=⟨⟨by omega,by omega⟩,hr⟩
 have hwo:=AOH l pk hfit
 have hro:=(AQo l pk hfit).pure
 have hth:=(AVu l (by omega) h20).pure
 have hrb:=A1g b (by omega)
 have htk2:((pk++[71,72]).map by8).take pk.length=pk.map by8:=by rw [List.map_append,List.take_append_of_le_length (by simp),List.take_of_length_le (by simp)]
 simp -dsimp (disch:=first | assumption | omega | (simp only [AyC];try omega)) only [↓AyG,AyB,AyE,AyF,eq_self,Nat.reduceEqDiff,↓reduceIte,reduceCtorEq,↓AG2]
 refine AMH (A9I pk (by omega) ?_)
 simp -dsimp (disch:=first | assumption | omega | (simp only [AyC];try omega)) only [↓AyG,AyB,AyE,AyF,eq_self,Nat.reduceEqDiff,↓reduceIte,reduceCtorEq,↓AHX]
 refine hwo.lends (args':=[.sl 41 (l.map chT),slB pk]) (by simp -dsimp (disch:=first | assumption | omega | (simp only [AyC];try omega)) only [AyE,AyF,eq_self,↓reduceIte,Nat.reduceAdd,htk2]) fun r hr => ?_
 by_cases hok:AO5 l
 ·rw [hr.1 hok]
  have hxl:=A5h (pk:=pk) hok h20 (by omega) (by omega)
  have hrx:=A1g _ hxl
  have hro':=hro.mono fun r h=>h.1 hok
  generalize puB l pk=X at *
  simp -dsimp (disch:=first | assumption | omega | (simp only [AyC];try omega)) only [↓AyG,AyB,AyE,AyF,eq_self,Nat.reduceEqDiff,↓reduceIte,reduceCtorEq,↓AB3]
  refine AMH (AS4 pk (by omega) rfl ?_)
  simp -dsimp (disch:=first | assumption | omega | (simp only [AyC];try omega)) only [↓AyG,AyB,AyE,AyF,eq_self,Nat.reduceEqDiff,↓reduceIte,reduceCtorEq,↓ACs]
  refine hth.calls rfl fun r hr => ?_
  subst hr
  simp -dsimp (disch:=first | assumption | omega | (simp only [AyC];try omega)) only [↓AyG,AyB,AyE,AyF,eq_self,Nat.reduceEqDiff,↓reduceIte,reduceCtorEq,↓ACd]
  refine hro'.calls rfl fun r hr => ?_
  subst hr
  simp -dsimp (disch:=first | assumption | omega | (simp only [AyC];try omega)) only [↓AyG,AyB,AyE,AyF,eq_self,Nat.reduceEqDiff,↓reduceIte,↓ACq]
  refine (same X X (by omega) (by omega)).calls rfl fun r hr => ?_
  subst hr
  simp -dsimp (disch:=first | assumption | omega | (simp only [AyC];try omega)) only [↓AyG,AyB,AyE,AyF,eq_self,Nat.reduceEqDiff,↓reduceIte,↓ACl]
  refine A74.calls rfl fun r hr => ?_
  subst hr
  simp -dsimp (disch:=first | assumption | omega | (simp only [AyC];try omega)) only [↓AyG,AyB,AyE,AyF,eq_self,Nat.reduceEqDiff,↓reduceIte,↓ACi]
  refine hrb.calls rfl fun r hr => ?_
  subst hr
  simp -dsimp (disch:=first | assumption | omega | (simp only [AyC];try omega)) only [↓AyG,AyB,AyE,AyF,eq_self,Nat.reduceEqDiff,↓reduceIte,↓ACh]
  refine hrx.calls rfl fun r hr => ?_
  subst hr
  simp -dsimp (disch:=first | assumption | omega | (simp only [AyC];try omega)) only [↓AyG,AyB,AyE,AyF,eq_self,Nat.reduceEqDiff,↓reduceIte,↓AzK]
 ·rw [hr.2 hok]
  have hro':=hro.mono fun r h=>h.2 hok
  simp -dsimp (disch:=first | assumption | omega | (simp only [AyC];try omega)) only [↓AyG,AyB,AyE,AyF,eq_self,Nat.reduceEqDiff,↓reduceIte,reduceCtorEq,↓AB3]
  refine AMH (AS4 pk (by omega) rfl ?_)
  simp -dsimp (disch:=first | assumption | omega | (simp only [AyC];try omega)) only [↓AyG,AyB,AyE,AyF,eq_self,Nat.reduceEqDiff,↓reduceIte,reduceCtorEq,↓ACs]
  refine hth.calls rfl fun r hr => ?_
  subst hr
  simp -dsimp (disch:=first | assumption | omega | (simp only [AyC];try omega)) only [↓AyG,AyB,AyE,AyF,eq_self,Nat.reduceEqDiff,↓reduceIte,reduceCtorEq,↓ACd]
  refine hro'.calls rfl fun r hr => ?_
  subst hr
  simp -dsimp (disch:=first | assumption | omega | (simp only [AyC];try omega)) only [↓AyG,AyB,AyE,AyF,eq_self,Nat.reduceEqDiff,↓reduceIte,↓ACq]
  refine ((same [] [] (by simp) (by simp)).argL (.cons AKB (.cons AKB .nil))).calls rfl fun r hr => ?_
  subst hr
  simp -dsimp (disch:=first | assumption | omega | (simp only [AyC];try omega)) only [↓AyG,AyB,AyE,AyF,eq_self,Nat.reduceEqDiff,↓reduceIte,↓ACl]
  refine Bdt.calls rfl fun r hr => ?_
  subst hr
  simp -dsimp (disch:=first | assumption | omega | (simp only [AyC];try omega)) only [↓AyG,AyB,AyE,AyF,eq_self,Nat.reduceEqDiff,↓reduceIte,↓ACi]
  refine hrb.calls rfl fun r hr => ?_
  subst hr
  simp -dsimp (disch:=first | assumption | omega | (simp only [AyC];try omega)) only [↓AyG,AyB,AyE,AyF,eq_self,Nat.reduceEqDiff,↓reduceIte,reduceCtorEq,↓ACh,↓AHO,↓AzK]
end
section
open Go.RowKit
variable [AyT]
set_option maxRecDepth 100000 in
theorem ASc {R:Nat} {t:TypeId} (ht:Tryz.prog.underlying t=some (.array 20 5)) (hn:Tryz.prog.cellsOf t=20):AEs R Tryz.prog t (fun l:List UInt8 => .arr 20 1 (l.map by8)) (fun l=>l.length=20) :=
 AHr (AUI ht (k:=1) (by kernel_rfl) (by rw [hn]) (AVp Tryz.underlying5) (fun _ _=>rfl)) fun l h=>⟨l,rfl,h.1⟩
set_option maxRecDepth 100000 in
theorem ATG {R:Nat}:AEs R Tryz.prog 95 (fun c:ChD=>chT c) (fun c=>c.1.length≤R∧c.2.1.length=20∧c.2.2.length=20):=by
 refine AHr (AT1 Tryz.underlying95 (by kernel_rfl) (AJC (off:=0) (n:=1) rfl (by kernel_rfl) (ATB Tryz.underlying9) (AJC (off:=1) (n:=20) rfl (by kernel_rfl) (ASc Tryz.underlying67 (by kernel_rfl)) (AJC (off:=21) (n:=20) rfl (by kernel_rfl) (ASc Tryz.underlying67 (by kernel_rfl)) AVH)))) fun x h => ?_
 obtain ⟨n,i,j,u⟩:=x
 exact ⟨(n,i,j),rfl,h.1,h.2.1,h.2.2.1⟩
set_option maxRecDepth 100000 in
theorem ARQ {R:Nat}:AEs R Tryz.prog 47 (fun l:List ChD => .sl 41 (l.map chT)) (fun l=>l.length≤140737488351232∧∀ c∈l,c.1.length≤R∧c.2.1.length=20∧c.2.2.length=20):=by
 refine AHr (APl Tryz.underlying47 (k:=41) (by kernel_rfl) (B:=56) (by kernel_rfl) ATG (fun r h=>by unfold chT; simp [AyL,Azk]) (by omega)) fun x h => ?_
 exact ⟨x,rfl,by have:=h.2.1; omega,h.1⟩
end
end Go.Proofs.YtnikbdnebdmmiaaGreatDoor
namespace Go.Proofs.YtnikbdnebdmmiaaGreatDoor.wirePushes
open Go.ChangeShapes Go.WideShapes Go.ChangeAt Go.RowKit
theorem own:ownKnob Tryz.prog.godebug=none:=by kernel_rfl
mutual
def A6h:DataW Unit→List Value
 | .lit (.int k n)=>[.int k n]
 | .lit (.string l)=>[.string ⟨l.toArray⟩]
 | .agg l=>A8D l
 | _=>[]
def A8D:List (DataW Unit)→List Value
 | []=>[]
 | d::l=>A6h d++A8D l
end
abbrev giM (t0:TypeId) (a0:Addr) (t1:TypeId) (a1:Addr) (m:Int):AyT:=⟨[(0,AzR),(7,Ay7),(8,Ay6),(2,AyV),(4,GV.one (.iface t0 (.pointer (some a0)))),(3,GV.one (.iface t1 (.pointer (some a1)))),(1,GV.one (.int .i64 m))],by kernel_rfl⟩
theorem AML (t0:TypeId) (a0:Addr) (t1:TypeId) (a1:Addr) (m:Int):@AzH (giM t0 a0 t1 a1 m):=@AzH.mk (giM t0 a0 t1 a1 m) (by kernel_rfl)
theorem AGr (t0:TypeId) (a0:Addr) (t1:TypeId) (a1:Addr) (m:Int):@Az8 (giM t0 a0 t1 a1 m):=@Az8.mk (giM t0 a0 t1 a1 m) (by kernel_rfl)
theorem AGu (t0:TypeId) (a0:Addr) (t1:TypeId) (a1:Addr) (m:Int):@Az7 (giM t0 a0 t1 a1 m):=@Az7.mk (giM t0 a0 t1 a1 m) (by kernel_rfl)
theorem ADH (t0:TypeId) (a0:Addr) (t1:TypeId) (a1:Addr) (m:Int):@Azo (giM t0 a0 t1 a1 m):=@Azo.mk (giM t0 a0 t1 a1 m) (by kernel_rfl)
theorem AMA (t0:TypeId) (a0:Addr) (t1:TypeId) (a1:Addr) (m:Int):@AyQ (giM t0 a0 t1 a1 m):=@AyQ.mk (giM t0 a0 t1 a1 m) ⟨t0,a0,by kernel_rfl⟩
theorem AMc (t0:TypeId) (a0:Addr) (t1:TypeId) (a1:Addr) (m:Int):@AyO (giM t0 a0 t1 a1 m):=@AyO.mk (giM t0 a0 t1 a1 m) ⟨t1,a1,by kernel_rfl⟩
theorem et:Tryz.prog.globalNamed "errors.errorType" = some 0:=by kernel_rfl
theorem rt:(Tryz.prog.cutTypes.find? (·.1 == "internal/reflectlite.rtype")).map (·.2)=some 170:=by kernel_rfl
theorem A78:((List.range Tryz.prog.types.size).filter fun t=>Tryz.prog.rowNamed t [101,114,114,111,114])=[25]:=by kernel_rfl
theorem ARU {W:World} (h:handlesMet Tryz.prog [("errors.errorType", Rows.laid_errors_errorType)] W):∃ t fr,W.heap[0]?=some (.cells AzR.cells.toArray t fr):=by
 obtain ⟨name,u,ty,e1,e2,e3,e4,e5⟩:=h _ (List.mem_singleton.2 rfl)
 have en:name=[101,114,114,111,114]:=(Option.some.inj e1).symm
 subst en
 obtain rfl:=Option.some.inj (rt.symm.trans e2)
 have hm:ty∈(List.range Tryz.prog.types.size).filter fun t=>Tryz.prog.rowNamed t [101,114,114,111,114]:=List.mem_filter.2 ⟨List.mem_range.2 e3,e4⟩
 rw [A78] at hm
 obtain rfl:=List.mem_singleton.1 hm
 have hh:typeHandle Tryz.prog 25 = .pointer (some ⟨9,25,none⟩):=by kernel_rfl
 rw [hh] at e5
 exact ATQ et e5
def AFC:List (DataW Unit):=[.lit (.int .u8 0),.lit (.int .u8 1),.lit (.int .u8 28),.lit (.int .u8 2),.lit (.int .u8 29),.lit (.int .u8 14),.lit (.int .u8 24),.lit (.int .u8 3),.lit (.int .u8 30),.lit (.int .u8 22),.lit (.int .u8 20),.lit (.int .u8 15),.lit (.int .u8 25),.lit (.int .u8 17),.lit (.int .u8 4),.lit (.int .u8 8),.lit (.int .u8 31),.lit (.int .u8 27),.lit (.int .u8 13),.lit (.int .u8 23),.lit (.int .u8 21),.lit (.int .u8 19),.lit (.int .u8 16),.lit (.int .u8 7),.lit (.int .u8 26),.lit (.int .u8 12),.lit (.int .u8 18),.lit (.int .u8 6),.lit (.int .u8 11),.lit (.int .u8 5),.lit (.int .u8 10),.lit (.int .u8 9)]
theorem AFA {W:World} (h:laidMet Tryz.prog [("math/bits.deBruijn32tab", Rows.laid_math_bits_deBruijn32tab),("math/bits.deBruijn64tab", Rows.laid_math_bits_deBruijn64tab),("internal/strconv.uint64pow10", Rows.laid_internal_strconv_uint64pow10),("unicode/utf8.acceptRanges", Rows.laid_unicode_utf8_acceptRanges),("strconv.ErrRange", Rows.laid_strconv_ErrRange),("strconv.ErrSyntax", Rows.laid_strconv_ErrSyntax),("unicode/utf8.first", Rows.laid_unicode_utf8_first)] W):∃ t fr,W.heap[7]?=some (.cells Ay7.cells.toArray t fr) :=
 ATE (t:=(Tryz.prog.globals[7]?).elim 0 (·.type)) (e:=match Tryz.prog.underlying ((Tryz.prog.globals[7]?).elim 0 (·.type)) with | some (.array _ e)=>e | _=>0) (n:=Ay7.cells.length) h (List.mem_of_getElem? (i:=0) (show [("math/bits.deBruijn32tab", Rows.laid_math_bits_deBruijn32tab),("math/bits.deBruijn64tab", Rows.laid_math_bits_deBruijn64tab),("internal/strconv.uint64pow10", Rows.laid_internal_strconv_uint64pow10),("unicode/utf8.acceptRanges", Rows.laid_unicode_utf8_acceptRanges),("strconv.ErrRange", Rows.laid_strconv_ErrRange),("strconv.ErrSyntax", Rows.laid_strconv_ErrSyntax),("unicode/utf8.first", Rows.laid_unicode_utf8_first)][0]?=some ("math/bits.deBruijn32tab", DataW.agg AFC) by kernel_rfl)) (by kernel_rfl) (by kernel_rfl) (by kernel_rfl) (by kernel_rfl) (by kernel_rfl) (by kernel_rfl) (by kernel_rfl)
def AFw:List (DataW Unit):=[.lit (.int .u8 0),.lit (.int .u8 1),.lit (.int .u8 56),.lit (.int .u8 2),.lit (.int .u8 57),.lit (.int .u8 49),.lit (.int .u8 28),.lit (.int .u8 3),.lit (.int .u8 61),.lit (.int .u8 58),.lit (.int .u8 42),.lit (.int .u8 50),.lit (.int .u8 38),.lit (.int .u8 29),.lit (.int .u8 17),.lit (.int .u8 4),.lit (.int .u8 62),.lit (.int .u8 47),.lit (.int .u8 59),.lit (.int .u8 36),.lit (.int .u8 45),.lit (.int .u8 43),.lit (.int .u8 51),.lit (.int .u8 22),.lit (.int .u8 53),.lit (.int .u8 39),.lit (.int .u8 33),.lit (.int .u8 30),.lit (.int .u8 24),.lit (.int .u8 18),.lit (.int .u8 12),.lit (.int .u8 5),.lit (.int .u8 63),.lit (.int .u8 55),.lit (.int .u8 48),.lit (.int .u8 27),.lit (.int .u8 60),.lit (.int .u8 41),.lit (.int .u8 37),.lit (.int .u8 16),.lit (.int .u8 46),.lit (.int .u8 35),.lit (.int .u8 44),.lit (.int .u8 21),.lit (.int .u8 52),.lit (.int .u8 32),.lit (.int .u8 23),.lit (.int .u8 11),.lit (.int .u8 54),.lit (.int .u8 26),.lit (.int .u8 40),.lit (.int .u8 15),.lit (.int .u8 34),.lit (.int .u8 20),.lit (.int .u8 31),.lit (.int .u8 10),.lit (.int .u8 25),.lit (.int .u8 14),.lit (.int .u8 19),.lit (.int .u8 9),.lit (.int .u8 13),.lit (.int .u8 8),.lit (.int .u8 7),.lit (.int .u8 6)]
theorem AFB {W:World} (h:laidMet Tryz.prog [("math/bits.deBruijn32tab", Rows.laid_math_bits_deBruijn32tab),("math/bits.deBruijn64tab", Rows.laid_math_bits_deBruijn64tab),("internal/strconv.uint64pow10", Rows.laid_internal_strconv_uint64pow10),("unicode/utf8.acceptRanges", Rows.laid_unicode_utf8_acceptRanges),("strconv.ErrRange", Rows.laid_strconv_ErrRange),("strconv.ErrSyntax", Rows.laid_strconv_ErrSyntax),("unicode/utf8.first", Rows.laid_unicode_utf8_first)] W):∃ t fr,W.heap[8]?=some (.cells Ay6.cells.toArray t fr) :=
 ATE (t:=(Tryz.prog.globals[8]?).elim 0 (·.type)) (e:=match Tryz.prog.underlying ((Tryz.prog.globals[8]?).elim 0 (·.type)) with | some (.array _ e)=>e | _=>0) (n:=Ay6.cells.length) h (List.mem_of_getElem? (i:=1) (show [("math/bits.deBruijn32tab", Rows.laid_math_bits_deBruijn32tab),("math/bits.deBruijn64tab", Rows.laid_math_bits_deBruijn64tab),("internal/strconv.uint64pow10", Rows.laid_internal_strconv_uint64pow10),("unicode/utf8.acceptRanges", Rows.laid_unicode_utf8_acceptRanges),("strconv.ErrRange", Rows.laid_strconv_ErrRange),("strconv.ErrSyntax", Rows.laid_strconv_ErrSyntax),("unicode/utf8.first", Rows.laid_unicode_utf8_first)][1]?=some ("math/bits.deBruijn64tab", DataW.agg AFw) by kernel_rfl)) (by kernel_rfl) (by kernel_rfl) (by kernel_rfl) (by kernel_rfl) (by kernel_rfl) (by kernel_rfl) (by kernel_rfl)
def ADc:List (DataW Unit):=[.lit (.int .u64 1),.lit (.int .u64 10),.lit (.int .u64 100),.lit (.int .u64 1000),.lit (.int .u64 10000),.lit (.int .u64 100000),.lit (.int .u64 1000000),.lit (.int .u64 10000000),.lit (.int .u64 100000000),.lit (.int .u64 1000000000),.lit (.int .u64 10000000000),.lit (.int .u64 100000000000),.lit (.int .u64 1000000000000),.lit (.int .u64 10000000000000),.lit (.int .u64 100000000000000),.lit (.int .u64 1000000000000000),.lit (.int .u64 10000000000000000),.lit (.int .u64 100000000000000000),.lit (.int .u64 1000000000000000000),.lit (.int .u64 10000000000000000000)]
theorem ACU {W:World} (h:laidMet Tryz.prog [("math/bits.deBruijn32tab", Rows.laid_math_bits_deBruijn32tab),("math/bits.deBruijn64tab", Rows.laid_math_bits_deBruijn64tab),("internal/strconv.uint64pow10", Rows.laid_internal_strconv_uint64pow10),("unicode/utf8.acceptRanges", Rows.laid_unicode_utf8_acceptRanges),("strconv.ErrRange", Rows.laid_strconv_ErrRange),("strconv.ErrSyntax", Rows.laid_strconv_ErrSyntax),("unicode/utf8.first", Rows.laid_unicode_utf8_first)] W):∃ t fr,W.heap[2]?=some (.cells AyV.cells.toArray t fr) :=
 ATE (t:=(Tryz.prog.globals[2]?).elim 0 (·.type)) (e:=match Tryz.prog.underlying ((Tryz.prog.globals[2]?).elim 0 (·.type)) with | some (.array _ e)=>e | _=>0) (n:=AyV.cells.length) h (List.mem_of_getElem? (i:=2) (show [("math/bits.deBruijn32tab", Rows.laid_math_bits_deBruijn32tab),("math/bits.deBruijn64tab", Rows.laid_math_bits_deBruijn64tab),("internal/strconv.uint64pow10", Rows.laid_internal_strconv_uint64pow10),("unicode/utf8.acceptRanges", Rows.laid_unicode_utf8_acceptRanges),("strconv.ErrRange", Rows.laid_strconv_ErrRange),("strconv.ErrSyntax", Rows.laid_strconv_ErrSyntax),("unicode/utf8.first", Rows.laid_unicode_utf8_first)][2]?=some ("internal/strconv.uint64pow10", DataW.agg ADc) by kernel_rfl)) (by kernel_rfl) (by kernel_rfl) (by kernel_rfl) (by kernel_rfl) (by kernel_rfl) (by kernel_rfl) (by kernel_rfl)
theorem Bdj : "*" ++ "errors.errorString" = "*errors.errorString" := by decide
theorem A4M (u:TypeId) (h:Tryz.prog.typeName? 3 u=some "*errors.errorString"):u=232 :=
 typeName_ptr_named (nm := "errors.errorString") (by rw [Bdj]; kernel_rfl) (by kernel_rfl) (by decide) u (by rw [Bdj]; exact h)
theorem ALh {W:World} (h:laidMet Tryz.prog [("math/bits.deBruijn32tab", Rows.laid_math_bits_deBruijn32tab),("math/bits.deBruijn64tab", Rows.laid_math_bits_deBruijn64tab),("internal/strconv.uint64pow10", Rows.laid_internal_strconv_uint64pow10),("unicode/utf8.acceptRanges", Rows.laid_unicode_utf8_acceptRanges),("strconv.ErrRange", Rows.laid_strconv_ErrRange),("strconv.ErrSyntax", Rows.laid_strconv_ErrSyntax),("unicode/utf8.first", Rows.laid_unicode_utf8_first)] W):∃ (a:Addr) (t:TypeId) (fr:Nat×Nat),W.heap[4]?=some (.cells #[.iface 232 (.pointer (some a))] t fr):=by
 have h2:laidMet Tryz.prog (("strconv.ErrRange", DataW.iface "*errors.errorString" (.ptr (.agg [.lit (.string [118,97,108,117,101,32,111,117,116,32,111,102,32,114,97,110,103,101])])))::[("strconv.ErrSyntax", Rows.laid_strconv_ErrSyntax),("unicode/utf8.first", Rows.laid_unicode_utf8_first)]) W:=h.tail.tail.tail.tail
 have hg:Tryz.prog.globalNamed "strconv.ErrRange" = some 4:=by kernel_rfl
 obtain ⟨a,s,hv,_⟩:=laid_sentinel h2 hg (show (Tryz.prog.globals[4]?).map (·.type)=some 25 by kernel_rfl) Tryz.underlying25 A4M Tryz.underlying232 Tryz.underlying234 rfl rfl Tryz.underlying9 (by kernel_rfl) (by kernel_rfl)
 exact ⟨a,ATQ hg hv⟩
theorem AJz {W:World} (h:laidMet Tryz.prog [("math/bits.deBruijn32tab", Rows.laid_math_bits_deBruijn32tab),("math/bits.deBruijn64tab", Rows.laid_math_bits_deBruijn64tab),("internal/strconv.uint64pow10", Rows.laid_internal_strconv_uint64pow10),("unicode/utf8.acceptRanges", Rows.laid_unicode_utf8_acceptRanges),("strconv.ErrRange", Rows.laid_strconv_ErrRange),("strconv.ErrSyntax", Rows.laid_strconv_ErrSyntax),("unicode/utf8.first", Rows.laid_unicode_utf8_first)] W):∃ (a:Addr) (t:TypeId) (fr:Nat×Nat),W.heap[3]?=some (.cells #[.iface 232 (.pointer (some a))] t fr):=by
 have h2:laidMet Tryz.prog (("strconv.ErrSyntax", DataW.iface "*errors.errorString" (.ptr (.agg [.lit (.string [105,110,118,97,108,105,100,32,115,121,110,116,97,120])])))::[("unicode/utf8.first", Rows.laid_unicode_utf8_first)]) W:=h.tail.tail.tail.tail.tail
 have hg:Tryz.prog.globalNamed "strconv.ErrSyntax" = some 3:=by kernel_rfl
 obtain ⟨a,s,hv,_⟩:=laid_sentinel h2 hg (show (Tryz.prog.globals[3]?).map (·.type)=some 25 by kernel_rfl) Tryz.underlying25 A4M Tryz.underlying232 Tryz.underlying234 rfl rfl Tryz.underlying9 (by kernel_rfl) (by kernel_rfl)
 exact ⟨a,ATQ hg hv⟩
theorem AUq {W:World} (h:laidMetH Tryz.prog Rows.wirePushesUptoRow.laid W) (hsh:W.ShapedOpen Tryz.prog):∃ t0 a0 t1 a1 m,@ADO (giM t0 a0 t1 a1 m) (fun b=>b<W.heap.size) W:=by
 have h':laidMet Tryz.prog [("math/bits.deBruijn32tab", Rows.laid_math_bits_deBruijn32tab),("math/bits.deBruijn64tab", Rows.laid_math_bits_deBruijn64tab),("internal/strconv.uint64pow10", Rows.laid_internal_strconv_uint64pow10),("unicode/utf8.acceptRanges", Rows.laid_unicode_utf8_acceptRanges),("strconv.ErrRange", Rows.laid_strconv_ErrRange),("strconv.ErrSyntax", Rows.laid_strconv_ErrSyntax),("unicode/utf8.first", Rows.laid_unicode_utf8_first)] W∧handlesMet Tryz.prog [("errors.errorType", Rows.laid_errors_errorType)] W:=h
 obtain ⟨a0,e0⟩:=ALh h'.1
 obtain ⟨a1,e1⟩:=AJz h'.1
 obtain ⟨m,tt,fr,hh⟩:=ASI (k := .i64) (zero := #[.int .i64 0]) (g:=1) (t:=3) hsh (of_decide_eq_true (by kernel_rfl)) (by kernel_rfl) rfl (by kernel_rfl) (by kernel_rfl) Tryz.underlying3
 refine ⟨232,a0,232,a1,m,?_⟩
 letI:=giM 232 a0 232 a1 m
 intro g x hx
 have hm:=AXA hx
 have hm':(g,x)∈([(0,AzR),(7,Ay7),(8,Ay6),(2,AyV),(4,GV.one (.iface 232 (.pointer (some a0)))),(3,GV.one (.iface 232 (.pointer (some a1)))),(1,GV.one (.int .i64 m))]:List (Nat×GV)):=hm
 simp only [List.mem_cons,List.mem_nil_iff,or_false,Prod.mk.injEq] at hm'
 have key:∃ t fr,W.heap[g]?=some (.cells x.cells.toArray t fr):=by
  rcases hm' with ⟨rfl,rfl⟩ | ⟨rfl,rfl⟩ | ⟨rfl,rfl⟩ | ⟨rfl,rfl⟩ | ⟨rfl,rfl⟩ | ⟨rfl,rfl⟩ | ⟨rfl,rfl⟩
  ·exact ARU h'.2
  ·exact AFA h'.1
  ·exact AFB h'.1
  ·exact ACU h'.1
  ·exact e0
  ·exact e1
  ·exact ⟨tt,fr,hh⟩
 obtain ⟨t,fr,hk⟩:=key
 exact ⟨(Array.getElem?_eq_some_iff.1 hk).1,t,fr,hk⟩
noncomputable def AQS (os:Os):World :=
 let w0:=World.holding Tryz.prog os ⟨#[],#[.slice none 0 0,.slice none 0 0,.slice none 0 0],[]⟩
 let w1:={ w0 with heap:=w0.heap.modify 0 fun
   | .cells _ t frozen => .cells AzR.cells.toArray t frozen
   | o=>o }
 let w2:={ w1 with heap:=w1.heap.modify 7 fun
   | .cells _ t frozen => .cells Ay7.cells.toArray t frozen
   | o=>o }
 let w3:={ w2 with heap:=w2.heap.modify 8 fun
   | .cells _ t frozen => .cells Ay6.cells.toArray t frozen
   | o=>o }
 let w4:={ w3 with heap:=w3.heap.modify 2 fun
   | .cells _ t frozen => .cells AyV.cells.toArray t frozen
   | o=>o }
 let w5:={ w4 with heap:=w4.heap.modify 6 fun
   | .cells _ t frozen => .cells (A6h Rows.laid_unicode_utf8_acceptRanges).toArray t frozen
   | o=>o }
 let w6:={ w5 with heap:=w5.heap.modify 5 fun
   | .cells _ t frozen => .cells (A6h Rows.laid_unicode_utf8_first).toArray t frozen
   | o=>o }
 let w7:={ w6 with heap:=(w6.heap.push (.cells #[.string ⟨([118,97,108,117,101,32,111,117,116,32,111,102,32,114,97,110,103,101]:List UInt8).toArray⟩] 234 (0,0))).modify 4 fun
   | .cells _ t frozen => .cells #[.iface 232 (.pointer (some ⟨w6.heap.size,0,none⟩))] t frozen
   | o=>o }
 let w8:={ w7 with heap:=(w7.heap.push (.cells #[.string ⟨([105,110,118,97,108,105,100,32,115,121,110,116,97,120]:List UInt8).toArray⟩] 234 (0,0))).modify 3 fun
   | .cells _ t frozen => .cells #[.iface 232 (.pointer (some ⟨w7.heap.size,0,none⟩))] t frozen
   | o=>o }
 w8
theorem ATT (os:Os) (args:Array Value):laidMetH Tryz.prog Rows.wirePushesUptoRow.laid ((AQS os).forCall (fun _ _=>0) ⟨#[],args,[]⟩).memory :=
 laidMetH_of_parts (laidMet_of_run' 8 (by kernel_rfl) (by kernel_rfl)) (by kernel_rfl)
theorem reads (os:Os) {H:Type} (enc:TypeId×Value→H):∃ places,DataW.whole enc Tryz.prog ((AQS os).forCall (fun _ _=>0) ⟨#[],#[.slice none 0 0,.slice none 0 0,.slice none 0 0],[]⟩).memory Tryz.f5.params.toList Rows.wirePushesSpec.vars false (#[.slice none 0 0,.slice none 0 0,.slice none 0 0]:Array Value).toList 8=some ([.nil,.nil,.nil],[],places):=⟨[],by kernel_rfl⟩
mutual
theorem AY1 {H:Type}:∀ (d:DataW H) (n:Nat),n∈AVz d→n≤Rows.uptoBulk d
 | .lit l,n,h=>by
  cases l<;>first
   | (simp [AVz] at h; done)
   | (simp only [AVz,List.mem_singleton] at h; subst h; simp only [Rows.uptoBulk]; omega)
 | .slice el sp,n,h=>by
  rw [AVz] at h
  have:=AKM el n h
  simp only [Rows.uptoBulk]; omega
 | .agg ps,n,h=>by
  rw [AVz] at h
  have:=AKM ps n h
  simp only [Rows.uptoBulk]; omega
 | .nil,n,h=>by simp [AVz] at h
 | .ptr _,n,h=>by simp [AVz] at h
 | .iface _ _,n,h=>by simp [AVz] at h
 | .map _,n,h=>by simp [AVz] at h
 | .held _,n,h=>by simp [AVz] at h
theorem AKM {H:Type}:∀ (ds:List (DataW H)) (n:Nat),n∈ANK ds→n≤Rows.uptoBulkAll ds
 | [],n,h=>by simp [ANK] at h
 | d::ds,n,h=>by
  rw [ANK,List.mem_append] at h
  simp only [Rows.uptoBulkAll]
  rcases h with h | h
  ·have:=AY1 d n h; omega
  ·have:=AKM ds n h; omega
end
theorem A3K {H:Type} {ds:List (DataW H)} (h:Rows.uptoSmall H (ds++[])=true):(ANK ds).all (· ≤ 1048576)=true:=by
 rw [List.append_nil] at h
 have h1:Rows.uptoBulkAll ds≤1048576:=of_decide_eq_true h
 exact List.all_eq_true.2 fun n hn=>decide_eq_true (Nat.le_trans (AKM ds n hn) h1)
theorem A2F:laidOutB Tryz.prog=true∧mapsRowed Tryz.prog=true :=
 have H:=ClosedOfChecked.allSpec_of Tryz.checked.wellFormed (by kernel_rfl:Tryz.checked.prog.types=Tryz.checked.src.types)
 ⟨ClosedOfChecked.laidOutB_of H (by kernel_rfl),ClosedOfChecked.mapsRowed_of H⟩
theorem ABu {a b:Bool} (h:a=true) (k:b=true):(a && b)=true:=by rw [h,k]; rfl
theorem BcF:(Rows.wirePushesUptoRow.wf (OpenSpec.ofChange (Rows.OpenSpec.upto Rows.wirePushesSpec).bare))=true:=by kernel_rfl
theorem Bbi:(laidOutB Tryz.prog)=true:=A2F.1
theorem BbC:(mapsRowed Tryz.prog)=true:=A2F.2
theorem Bbb:(Tryz.f5.params.all (Tryz.prog.readableRec ·))=true:=by kernel_rfl
theorem BbO:(namedTie Tryz.prog Rows.wirePushesUptoRow.named (Rows.OpenSpec.upto Rows.wirePushesSpec).bare.vars)=true:=by kernel_rfl
theorem Bbh:((Rows.wirePushesUptoRow.stops == []))=true:=by kernel_rfl
theorem BbN:((Tryz.prog.stops == []))=true:=by kernel_rfl
theorem Bcu:((Rows.wirePushesUptoRow.knobs == []))=true:=by kernel_rfl
theorem Bb6:((Tryz.prog.stopKnobs == []))=true:=by kernel_rfl
theorem Bb7:((Rows.wirePushesUptoRow.inPlace == Tryz.prog.inPlace 5))=true:=by kernel_rfl
theorem A82:((Rows.wirePushesUptoRow.unfollowed == Tryz.prog.unfollowed 5))=true:=by kernel_rfl
theorem A7Q:((Rows.wirePushesUptoRow.recurses == Tryz.prog.recurses 5))=true:=by kernel_rfl
theorem A8O:((Rows.wirePushesUptoRow.named == Tryz.prog.varsNamed 5))=true:=by kernel_rfl
theorem A8Y:((Rows.wirePushesUptoRow.maps == (Tryz.f5.params.toList++(Rows.OpenSpec.upto Rows.wirePushesSpec).bare.plain.varTypes Tryz.prog).any (Tryz.prog.mapsRec ·)))=true:=by kernel_rfl
theorem Bao:((Rows.wirePushesUptoRow.ifaces == (Tryz.f5.params.toList++(Rows.OpenSpec.upto Rows.wirePushesSpec).bare.plain.varTypes Tryz.prog).any (Tryz.prog.ifacesRec ·)))=true:=by kernel_rfl
theorem A9D:((Rows.wirePushesUptoRow.mapsOut == Tryz.prog.mapsAmong Tryz.f5.resultTypes.toList))=true:=by kernel_rfl
theorem A8I:((Rows.wirePushesUptoRow.loops == (Tryz.f5.params.toList++(Rows.OpenSpec.upto Rows.wirePushesSpec).bare.plain.varTypes Tryz.prog).any (Tryz.prog.loopsFrom ·)))=true:=by kernel_rfl
theorem A9E:((Rows.wirePushesUptoRow.wideKeys == (Tryz.f5.params.toList++(Rows.OpenSpec.upto Rows.wirePushesSpec).bare.plain.varTypes Tryz.prog++Tryz.f5.resultTypes.toList).any (Tryz.prog.wideKeysFrom ·)))=true:=by kernel_rfl
theorem A8A:((Rows.OpenSpec.upto Rows.wirePushesSpec).bare.vars.all (Tryz.prog.varReadable ·))=true:=by kernel_rfl
theorem A9r:(Tryz.f5.resultTypes.all (fun t=>Tryz.prog.readableRec t && decide (t<Tryz.prog.types.size)))=true:=by kernel_rfl
theorem A8r:((Rows.wirePushesUptoRow.ifacesOut == Tryz.f5.resultTypes.toList.any (Tryz.prog.ifacesRec ·)))=true:=by kernel_rfl
theorem A8q:((Rows.wirePushesUptoRow.loopsOut == Tryz.f5.resultTypes.toList.any (Tryz.prog.loopsFrom ·)))=true:=by kernel_rfl
theorem A8X:((Rows.wirePushesUptoRow.plainKeys == Tryz.prog.plainKeys))=true:=by kernel_rfl
theorem Bac:(Rows.wirePushesUptoRow.shortTexts.isNone)=true:=by kernel_rfl
theorem Bap:(Tryz.prog.stopsHeard)=true:=by kernel_rfl
theorem A7I:(Tryz.prog.mayEnter)=true:=by kernel_rfl
theorem A7V:((Rows.wirePushesUptoRow.lifted == Tryz.prog.liftsFinal))=true:=by kernel_rfl
theorem A9U:((Tryz.prog.make == some Rows.wirePushesUptoRow.make))=true:=by kernel_rfl
theorem A86:((Rows.wirePushesUptoRow.kinds == (if Rows.wirePushesUptoRow.domain.isEmpty then [] else Tryz.f5.params.toList.map fun t=>match Tryz.prog.underlying t with | some (.int k)=>some k | _=>none)))=true:=by kernel_rfl
theorem A9L:((Rows.wirePushesUptoRow.pinned == Rows.wirePushesUptoRow.pinnedBy))=true:=by kernel_rfl
theorem A8e:((Rows.wirePushesUptoRow.veiled == (Tryz.f5.params.toList++(Rows.OpenSpec.upto Rows.wirePushesSpec).bare.plain.varTypes Tryz.prog++Tryz.f5.resultTypes.toList).any (Tryz.prog.veiledRec ·)))=true:=by kernel_rfl
theorem A9P:(Rows.wirePushesUptoRow.veiledFits Tryz.prog Tryz.f5.params.toList (Tryz.f5.params.toList++(Rows.OpenSpec.upto Rows.wirePushesSpec).bare.plain.varTypes Tryz.prog++Tryz.f5.resultTypes.toList))=true:=by kernel_rfl
set_option maxRecDepth 100000 in
theorem A2i:((Rows.wirePushesUptoRow.wf (OpenSpec.ofChange (Rows.OpenSpec.upto Rows.wirePushesSpec).bare)) && (laidOutB Tryz.prog) && (mapsRowed Tryz.prog) && (Tryz.f5.params.all (Tryz.prog.readableRec ·)) && (namedTie Tryz.prog Rows.wirePushesUptoRow.named (Rows.OpenSpec.upto Rows.wirePushesSpec).bare.vars) && ((Rows.wirePushesUptoRow.stops == [])) && ((Tryz.prog.stops == [])) && ((Rows.wirePushesUptoRow.knobs == [])) && ((Tryz.prog.stopKnobs == [])) && ((Rows.wirePushesUptoRow.inPlace == Tryz.prog.inPlace 5)) && ((Rows.wirePushesUptoRow.unfollowed == Tryz.prog.unfollowed 5)) && ((Rows.wirePushesUptoRow.recurses == Tryz.prog.recurses 5)) && ((Rows.wirePushesUptoRow.named == Tryz.prog.varsNamed 5)) && ((Rows.wirePushesUptoRow.maps == (Tryz.f5.params.toList++(Rows.OpenSpec.upto Rows.wirePushesSpec).bare.plain.varTypes Tryz.prog).any (Tryz.prog.mapsRec ·))) && ((Rows.wirePushesUptoRow.ifaces == (Tryz.f5.params.toList++(Rows.OpenSpec.upto Rows.wirePushesSpec).bare.plain.varTypes Tryz.prog).any (Tryz.prog.ifacesRec ·))) && ((Rows.wirePushesUptoRow.mapsOut == Tryz.prog.mapsAmong Tryz.f5.resultTypes.toList)) && ((Rows.wirePushesUptoRow.loops == (Tryz.f5.params.toList++(Rows.OpenSpec.upto Rows.wirePushesSpec).bare.plain.varTypes Tryz.prog).any (Tryz.prog.loopsFrom ·))) && ((Rows.wirePushesUptoRow.wideKeys == (Tryz.f5.params.toList++(Rows.OpenSpec.upto Rows.wirePushesSpec).bare.plain.varTypes Tryz.prog++Tryz.f5.resultTypes.toList).any (Tryz.prog.wideKeysFrom ·))) && ((Rows.OpenSpec.upto Rows.wirePushesSpec).bare.vars.all (Tryz.prog.varReadable ·)) && (Tryz.f5.resultTypes.all (fun t=>Tryz.prog.readableRec t && decide (t<Tryz.prog.types.size))) && ((Rows.wirePushesUptoRow.ifacesOut == Tryz.f5.resultTypes.toList.any (Tryz.prog.ifacesRec ·))) && ((Rows.wirePushesUptoRow.loopsOut == Tryz.f5.resultTypes.toList.any (Tryz.prog.loopsFrom ·))) && ((Rows.wirePushesUptoRow.plainKeys == Tryz.prog.plainKeys)) && (Rows.wirePushesUptoRow.shortTexts.isNone) && (Tryz.prog.stopsHeard) && (Tryz.prog.mayEnter) && ((Rows.wirePushesUptoRow.lifted == Tryz.prog.liftsFinal)) && ((Tryz.prog.make == some Rows.wirePushesUptoRow.make)) && ((Rows.wirePushesUptoRow.kinds == (if Rows.wirePushesUptoRow.domain.isEmpty then [] else Tryz.f5.params.toList.map fun t=>match Tryz.prog.underlying t with | some (.int k)=>some k | _=>none))) && ((Rows.wirePushesUptoRow.pinned == Rows.wirePushesUptoRow.pinnedBy)) && ((Rows.wirePushesUptoRow.veiled == (Tryz.f5.params.toList++(Rows.OpenSpec.upto Rows.wirePushesSpec).bare.plain.varTypes Tryz.prog++Tryz.f5.resultTypes.toList).any (Tryz.prog.veiledRec ·))) && (Rows.wirePushesUptoRow.veiledFits Tryz.prog Tryz.f5.params.toList (Tryz.f5.params.toList++(Rows.OpenSpec.upto Rows.wirePushesSpec).bare.plain.varTypes Tryz.prog++Tryz.f5.resultTypes.toList)))=true:=(ABu (ABu (ABu (ABu (ABu (ABu (ABu (ABu (ABu (ABu (ABu (ABu (ABu (ABu (ABu (ABu (ABu (ABu (ABu (ABu (ABu (ABu (ABu (ABu (ABu (ABu (ABu (ABu (ABu (ABu (ABu BcF Bbi) BbC) Bbb) BbO) Bbh) BbN) Bcu) Bb6) Bb7) A82) A7Q) A8O) A8Y) Bao) A9D) A8I) A9E) A8A) A9r) A8r) A8q) A8X) Bac) Bap) A7I) A7V) A9U) A86) A9L) A8e) A9P)
set_option maxRecDepth 100000 in
theorem AVG:joinedFacts Tryz.prog 5 Tryz.f5 (Rows.OpenSpec.upto Rows.wirePushesSpec).bare Rows.wirePushesUptoRow=true:=A2i
set_option maxRecDepth 100000 in
theorem lifted (os:Os) (started:os.Started) (H:Type) (enc:TypeId×Value→H) (F:Stop.Interp) :
  ReturnsInHanded {} Tryz.checked os 5 .any ((Rows.OpenSpec.upto Rows.wirePushesSpec).preRow enc Tryz.prog Tryz.f5 Rows.wirePushesUptoRow.domain false Rows.wirePushesUptoRow.laid) (((Rows.OpenSpec.upto Rows.wirePushesSpec).at F).post enc Tryz.prog Tryz.f5 false true false false):=by
 obtain ⟨places,hx⟩:=reads os enc
 refine returnsInHanded_of_row (C:=Tryz.checked) (s:=Rows.OpenSpec.upto Rows.wirePushesSpec) own started (by kernel_rfl) Tryz.func5
  (witness_row_at (enc:=enc) (C:=Tryz.checked) false (AQS os) #[.slice none 0 0,.slice none 0 0,.slice none 0 0] rfl (by kernel_rfl) (by kernel_rfl) (by kernel_rfl)
   (OpenSpec.preRow_of_cond 8 hx (by kernel_rfl) (fun k hk=>by cases hk; kernel_rfl) (by kernel_rfl) (ATT os _))) ?_
 intro W base args ds gs before hval0 hW hcnd hcond hsz0 hL hsh _
 obtain ⟨t0,a0,t1,a1,m,hG⟩:=AUq hL hsh
 letI:AyT:=giM t0 a0 t1 a1 m
 haveI:AzH:=AML t0 a0 t1 a1 m
 haveI:Az8:=AGr t0 a0 t1 a1 m
 haveI:Az7:=AGu t0 a0 t1 a1 m
 haveI:Azo:=ADH t0 a0 t1 a1 m
 haveI:AyQ:=AMA t0 a0 t1 a1 m
 haveI:AyO:=AMc t0 a0 t1 a1 m
 haveI:AA7:=⟨m,by kernel_rfl⟩
 have hsz:(DataW.weightsEach Tryz.prog (Tryz.f5.params.toList++Rows.wirePushesSpec.plain.varTypes Tryz.prog) (ds++gs)).all (· ≤ reachBytes)=true:=hsz0
 have hval:∀ (j:Nat) t v,Tryz.f5.params[j]?=some t→args[j]?=some v→Value.okWide Tryz.prog W .any base t v:=hval0
 have hW':=hW
 obtain ⟨p,q,hA0,hV,rfl,hfz,hnd⟩:=hW
 have hA:DataW.TrodAll enc Tryz.prog W 0 (fun _=>true) true Tryz.f5.params.toList args.toList ds p:=hA0
 obtain ⟨rfl,rfl⟩:=trodVars_none hV
 have hsz2:(DataW.weightsEach Tryz.prog Tryz.f5.params.toList ds).all (· ≤ reachBytes)=true:=by
  have e:Tryz.f5.params.toList++Rows.wirePushesSpec.plain.varTypes Tryz.prog=Tryz.f5.params.toList:=by simp [ChangeSpec.plain,Rows.wirePushesSpec]; rfl
  rw [e,List.append_nil] at hsz; exact hsz
 have hA':=hA
 have hps:(Tryz.f5.params.toList.all fun t=>Tryz.prog.readableRec t && decide (t<Tryz.prog.types.size))=true:=by kernel_rfl
 have hv2:∀ (j:Nat) t v,Tryz.f5.params.toList[j]?=some t→args.toList[j]?=some v→∃ base,Value.okWide Tryz.prog W .any base t v:=fun j t v h1 h2=>⟨base,hval j t v (by rw [←Array.getElem?_toList]; exact h1) (by rw [←Array.getElem?_toList]; exact h2)⟩
 rw [Tryz.params5] at hA hsz2 hv2
 obtain ⟨dsE,hdsE⟩:∃ x,x=ds:=⟨_,rfl⟩
 refine (A9v (f:=5) (AGp (ARQ (R:=1048576)) (AJZ Tryz.underlying47) (fun _=>rfl) (AGp (APk Tryz.underlying23 Tryz.underlying5 (by kernel_rfl) (by kernel_rfl)) (AJZ Tryz.underlying23) (fun _=>rfl) (AGp (APk Tryz.underlying23 Tryz.underlying5 (by kernel_rfl) (by kernel_rfl)) (AJZ Tryz.underlying23) (fun _=>rfl) ATU))) (fun a h=>A0c a.1 a.2.1 a.2.2.1 h.1.1 (fun r hr=>⟨Nat.le_trans (h.1.2 r hr).1 (by decide),(h.1.2 r hr).2⟩) h.2.1 h.2.2.1) hA hv2 hsz2 (A3K (hcond _ rfl)) (hG)).mono fun e W' ⟨he,bel⟩ => ?_
 subst he
 have hB:=ANb A2F.1 bel hps hA'
 have hAo:=hA
 obtain ⟨v0,vs0,d0,ds0,p0,q0,ha0,hd0,hp0,h0,r0⟩:=trodAll_cons hAo
 obtain ⟨v1,vs1,d1,ds1,p1,q1,ha1,hd1,hp1,h1,r1⟩:=trodAll_cons r0
 obtain ⟨v2,vs2,d2,ds2,p2,q2,ha2,hd2,hp2,h2,r2⟩:=trodAll_cons r1
 obtain ⟨hz1,hz2,hz3⟩:=trodAll_nil r2
 have hd:ds=[d0,d1,d2]:=by rw [hd0,hd1,hd2,hz2]
 subst hd
 exact ⟨_,rfl,_,_,_,[],_,[],hW',trodAll_mk1 (shut_bool Tryz.underlying4 _),hB,rfl,bel.frame _,fun h=>by cases h⟩
theorem over:Rows.wirePushesUptoRow.holds Tryz.pinned (Rows.OpenSpec.upto Rows.wirePushesSpec) :=
 OpenClaim.holds_of_cond 5 Tryz.f5 rfl rfl rfl rfl rfl rfl rfl ⟨rfl,rfl,rfl,rfl,rfl⟩ rfl rfl rfl rfl rfl (by kernel_rfl) Tryz.func5 AVG
  (of_decide_eq_true (by kernel_rfl)) (by unfold Func.isWrapper; first | (rw [if_pos (by decide +kernel)]; kernel_rfl) | (rw [if_neg (by decide +kernel)]; exact ⟨rfl,rfl⟩))
  (fun os started H enc _ F=>by rw [OpenClaim.pre_eq_preRow]; exact lifted os started H enc F)
theorem stands:(Tryz.f5.params.toList.all fun t => !Tryz.prog.wantsStandIn t)=true:=by kernel_rfl
theorem proved:Rows.WirePushesUptoCardSaid :=
 Claim7.holds_tied_plain_at .later [] [.data,.data,.data,.data,.handle,.sentinel,.sentinel,.pinned] true (true, "1cd508813a7ab9180b6b047ca0db803201969f14fae151725a7c55c995d18096") true
  over (fun _ h=>by cases h) (by kernel_rfl) (fun _ h=>by cases h) wirePushesUpto_row_tie rfl ⟨rfl,rfl⟩ (by kernel_rfl) rfl
  (fun f fn hf hfn=>by
   obtain rfl:f=5:=(Option.some.inj ((show Tryz.prog.funcNamed "gitlike/gitlikelaw12.WirePushes" = some 5 by kernel_rfl).symm.trans hf)).symm
   obtain rfl:fn=Tryz.f5:=(Option.some.inj (Tryz.func5.symm.trans hfn)).symm
   exact ⟨by kernel_rfl,fun j t ht=>by
    rw [←Array.getElem?_toList] at ht
    have:=List.all_eq_true.1 stands t (List.mem_of_getElem? ht)
    exact (show Tryz.prog.wantsStandIn t=false by simpa using this)⟩)
  (by kernel_rfl)
#print axioms proved
end Go.Proofs.YtnikbdnebdmmiaaGreatDoor.wirePushes
