/- ObjectLinksCard: the law, proved out of contracts of the functions that it reaches (texts merged; names shortened by a program). No condition is laid on it. -/
import Derived.Test.YtliaddbbmnfioaaGreatDoorQG
import Derived.Test.YtliaddbbmnfioaaGreatDoorQE
import Derived.Laws.Cover1
import Derived.SevenTiedAt
import Derived.Test.YtliaddbbmnfioaaGreatDoorCards
import Derived.Test.YtliaddbbmnfioaaGreatDoorTie
import Derived.Test.YtliaddbbmnfioaaGreatDoorRows
import Derived.Test.YtliaddbbmnfioaaGreatDoorProg
import Derived.WalkKit
import Derived.ProofKit
import Derived.OpenShut
import Derived.ShutString
import Derived.ChangeOld
import Derived.Below
import Derived.SizedLaws
import Derived.ChangeVars
import Derived.LaidLaws
import Derived.LaidHandle
import Derived.Stop.Joined
import Derived.Stop.LaidErr
import Derived.ClosedOfChecked
set_option linter.unusedSectionVars false
set_option linter.unusedSimpArgs false
set_option linter.unusedVariables false
namespace Go.Proofs.YtliaddbbmnfioaaGreatDoor
section
open Go.RowKit
variable [Cc]
theorem Bpl (m:Int):CE Tryz.prog 51 [i64 m] (fun r=>r=ts (AcS m)):=by
 refine BD.toPureV (AxK (by simp) ?_)
 unfold AcS
 by_cases h1:m=16384
 ·subst h1
  simp -dsimp (disch:=first | assumption | omega | (simp only [Aa];try omega)) only [↓AB,Aj,AA,Az,eq_self,Nat.reduceEqDiff,↓reduceIte,reduceCtorEq,↓NU,↓La,↓Oa]
 by_cases h2:m=33188
 ·subst h2
  simp -dsimp (disch:=first | assumption | omega | (simp only [Aa];try omega)) only [↓AB,Aj,AA,Az,eq_self,Nat.reduceEqDiff,Int.reduceEq,↓reduceIte,reduceCtorEq,↓NU,↓La,↓Nk,↓Oa]
 by_cases h3:m=33261
 ·subst h3
  simp -dsimp (disch:=first | assumption | omega | (simp only [Aa];try omega)) only [↓AB,Aj,AA,Az,eq_self,Nat.reduceEqDiff,Int.reduceEq,↓reduceIte,reduceCtorEq,↓NU,↓La,↓Nk,↓Oa]
 by_cases h4:m=40960
 ·subst h4
  simp -dsimp (disch:=first | assumption | omega | (simp only [Aa];try omega)) only [↓AB,Aj,AA,Az,eq_self,Nat.reduceEqDiff,Int.reduceEq,↓reduceIte,reduceCtorEq,↓NU,↓La,↓Nk,↓Oa]
 ·have e1:¬ m=((16384:Nat):Int):=h1
  have e2:¬ m=((33188:Nat):Int):=h2
  have e3:¬ m=((33261:Nat):Int):=h3
  have e4:¬ m=((40960:Nat):Int):=h4
  simp -dsimp (disch:=first | assumption | omega | (simp only [Aa];try omega)) only [↓AB,Aj,AA,Az,eq_self,Nat.reduceEqDiff,↓reduceIte,reduceCtorEq,↓NU,↓La,↓Nk,↓Oa,e1,e2,e3,e4]
theorem BtU (e:En) (h20:e.id.length=20) (hn:e.name.length≤1000000000):CE Tryz.prog 87 [enT e] (fun r=>r=ts (Yb e)):=by
 refine BD.toPureV (ACo (by simp) ?_)
 have hx:(e.id.map by8).length=20:=by rw [List.length_map]; exact h20
 unfold Yb
 by_cases h1:e.mode=16384
 ·have e1:e.mode=((16384:Nat):Int):=h1
  rw [if_pos h1]
  simp -dsimp (disch:=first | assumption | omega | (simp only [Aa];try omega)) only [↓AB,Aj,AA,Az,eq_self,Nat.reduceEqDiff,↓reduceIte,Nat.reduceAdd,e1,Aam,↓Axs]
 ·have e1:¬ e.mode=((16384:Nat):Int):=h1
  rw [if_neg h1]
  simp -dsimp (disch:=first | assumption | omega | (simp only [Aa];try omega)) only [↓AB,Aj,AA,Az,eq_self,Nat.reduceEqDiff,↓reduceIte,Nat.reduceAdd,e1,↓Axs]
theorem Brd {t:TypeId} {a b:List UInt8}:Jh t .leq (.string (str a)) (.string (str b))=some (.bool (decide (¬ ltB b a))):=by
 unfold Jh
 rw [binOp_string_leq]
 simp only [Lib.toList_data,str,Bre]
 show some (Value.bool (decide (ltB a b) || a == b))=some (.bool (decide (¬ ltB b a)))
 congr 2
 by_cases h1:ltB b a
 ·have h2:¬ ltB a b:=fun h=>AsU _ (AlC h h1)
  have h3:(a == b)=false:=by simp only [beq_eq_false_iff_ne]; intro e; subst e; exact AsU _ h1
  simp [h1,h2,h3]
 ·by_cases h2:ltB a b
  ·simp [h1,h2]
  ·have:=BjW h2 h1
   subst this; simp [h1]
theorem Brf {a z:TV}:List.take 1 ((List.replicate 1 z).set 0 a)=[a]:=by simp [List.replicate]
theorem Bpd {α:Type} {z a:α}:(List.replicate 1 z).set 0 a=[a]:=by simp [List.replicate]
theorem Au3 {α:Type} {l:List α} {i:Nat} {x:α} (h:l[i]?=some x):i<l.length:=(List.getElem?_eq_some_iff.1 h).1
theorem Atp {l out:List En} {i at' k v cp:Nat} {x:En} {H:List Ob} {Q:VEx→Env→List Ob→Prop} (hx20:(x.id.map by8).length=20) (hg:l[i]?=some x) (hol:out.length≤10000) (hil:i≤10000) (hat:at'≤out.length) (hk:H[k]?=some (.obj v (.arr out.length 22 (out.map enT)))) (hcp:out.length≤cp)
  (hQ:∀ k' v' H',H'[k']?=some (.obj v' (.arr (out.take at'++[x]++out.drop at').length 22 ((out.take at'++[x]++out.drop at').map enT)))→H.length≤H'.length→Q .nor [(0,.sl 22 (l.map enT)),(3,.os 22 k' v' [] 0 (out.take at'++[x]++out.drop at').length (out.take at'++[x]++out.drop at').length),(4,i64 (i:Int))] H') :
  vwp Tryz.prog WB Q [(0,.sl 22 (l.map enT)),(3,.os 22 k v [] 0 out.length cp),(4,i64 (i:Int)),(5,i64 (at':Int))] H:=by
 have hkl:=Au3 hk
 have htl:((out.map enT).take at').length=at':=by simp [hat]
 have hdl:((out.map enT).drop at').length=out.length - at':=by simp
 have hq1:List.take at' (List.take at' out)=List.take at' out:=by rw [List.take_take,Nat.min_self]
 have hq2:(List.take at' out).length=at':=by simp [hat]
 have hq3:∀ y:TV,List.take (at'+1) ((List.take at' out).map enT++[y])=(List.take at' out).map enT++[y]:=fun y=>List.take_of_length_le (by simp [hat])
 have hq4:(out.drop at').length=out.length - at':=by simp
 simp -dsimp (disch:=first | assumption | omega | (simp only [Aa];try omega)) only [↓AB,Aj,AA,Az,eq_self,Nat.reduceEqDiff,↓reduceIte,Nat.reduceAdd,reduceCtorEq,Nat.reduceLeDiff,↓Aqu,↓AqT,↓ArZ,hg,hk,Bpd,hq2,hq3,hq4]
 have hlen':(out.take at'++[x]++out.drop at').length=at'+1+(out.length - at'):=by
  rw [List.length_append,List.length_append,hq2,hq4,List.length_singleton]
 have:=hQ H.length 3 (H++[Ob.obj 3 (.arr (at'+1+(out.length - at')) 22 (List.map enT (List.take at' out)++[enT x]++List.map enT (List.drop at' out)))]++[Ob.obj 0 (TV.arr 1 22 [enT x])])
  (by rw [List.append_assoc,List.getElem?_append_right (Nat.le_refl _),Nat.sub_self,hlen']; simp) (by simp)
 rw [hlen'] at this
 exact this
theorem AE5 (l:List En) (hlen:l.length≤5000) (h20:∀ x∈l,x.id.length=20) (hnm:∀ x∈l,x.name.length≤1000000000) (hn:(l.map Yb).Nodup):CE Tryz.prog 52 [.sl 22 (l.map enT)] (fun r=>∃ s,r = .sl 22 (s.map enT)∧SE s∧s.Perm l):=by
 refine BD.toPureV (Awi (by simp) ?_)
 simp -dsimp (disch:=first | assumption | omega | (simp only [Aa];try omega)) only [↓AB,Aj,AA,Az,eq_self,Nat.reduceEqDiff,↓reduceIte,reduceCtorEq,↓AvH,↓Ap8,↓AoR,↓ArN]
 refine FU (fun q e H=>∃ (i k v cp:Nat) (out:List En),q=l.length - i∧i≤l.length∧SE out∧out.Perm (l.take i)∧e=[(0,.sl 22 (l.map enT)),(3,.os 22 k v [] 0 out.length cp),(4,i64 (i:Int))]∧(H[k]?=some (.obj v (.arr out.length 22 (out.map enT)))∧out.length≤cp)) l.length ?_ ?_
 ·exact ⟨0,0,0,0,[],by simp,by simp,List.Pairwise.nil,by simp,by simp [forget,get],rfl,by simp⟩
 ·rintro q e H ⟨i,k,v,cp,out,rfl,hi,hsd,hmem,rfl,hk,hcp⟩
  have hkl:=Au3 hk
  have hol:out.length=i:=by rw [hmem.length_eq]; simp [hi]
  by_cases h:i<l.length
  ·have hg:l[i]?=some l[i]:=List.getElem?_eq_getElem h
   have hsucc:=List.take_succ_eq_append_getElem h
   have hnot:Yb l[i]∉out.map Yb:=fun hm=>by
    rw [(hmem.map _).mem_iff] at hm
    have h2:((l.take (i+1)).map Yb).Nodup:=hn.sublist ((List.take_sublist _ _).map _)
    rw [hsucc,List.map_append,List.nodup_append] at h2
    exact h2.2.2 _ hm _ (by simp) rfl
   have hx20:(l[i].id.map by8).length=20:=by rw [List.length_map]; exact h20 _ (List.getElem_mem h)
   have hkx:=BtU l[i] (h20 _ (List.getElem_mem h)) (hnm _ (List.getElem_mem h))
   generalize l[i]=x at *
   simp -dsimp (disch:=first | assumption | omega | (simp only [Aa];try omega)) only [↓AB,Aj,AA,Az,eq_self,Nat.reduceEqDiff,↓reduceIte,reduceCtorEq,↓Aay,↓Aqy,↓Aq0]
   refine FU (fun q e H'=>∃ at':Nat,q=out.length - at'∧at'≤out.length∧(∀ (j:Nat) y,j<at'→out[j]?=some y→ltB (Yb y) (Yb x))∧e=[(0,.sl 22 (l.map enT)),(3,.os 22 k v [] 0 out.length cp),(4,i64 (i:Int)),(5,i64 (at':Int))]∧H'=H) out.length ?_ ?_
   ·exact ⟨0,by simp,by simp,by simp,by simp [forget,get],rfl⟩
   ·rintro q e H' ⟨at',rfl,hat,hlt,rfl,rfl⟩
    by_cases ha:at'<out.length
    ·have hga:out[at']?=some out[at']:=List.getElem?_eq_getElem ha
     have hya:out[at']∈l:=List.mem_of_mem_take (hmem.mem_iff.1 (List.mem_of_getElem? hga))
     have hky:=BtU out[at'] (h20 _ hya) (hnm _ hya)
     have hne:Yb out[at']≠Yb x:=fun e=>hnot (by rw [←e]; exact List.mem_map.2 ⟨_,List.getElem_mem ha,rfl⟩)
     have h20y:(out[at'].id.map by8).length=20:=by rw [List.length_map]; exact h20 _ hya
     generalize out[at']=y at *
     have hgt:(out.map enT)[at']?=some (enT y):=by rw [List.getElem?_map,hga]; rfl
     simp -dsimp (disch:=first | assumption | omega | (simp only [Aa];try omega)) only [↓AB,Aj,AA,Az,eq_self,Nat.reduceEqDiff,↓reduceIte,Nat.reduceAdd,reduceCtorEq,↓Aas,hk,hgt]
     refine ⟨_,hky.calls rfl fun r hr=>⟨hr,rfl⟩,?_⟩
     simp -dsimp (disch:=first | assumption | omega | (simp only [Aa];try omega)) only [↓AB,Aj,AA,Az,eq_self,Nat.reduceEqDiff,↓reduceIte,Nat.reduceAdd,reduceCtorEq,hg]
     refine hkx.calls rfl fun r hr => ?_
     subst hr
     simp -dsimp (disch:=first | assumption | omega | (simp only [Aa];try omega)) only [↓AB,Aj,AA,Az,eq_self,Nat.reduceEqDiff,↓reduceIte,Brd]
     refine BlE (fun hl1 => ?_) (fun hl1 => ?_)
     ·simp -dsimp (disch:=first | assumption | omega | (simp only [Aa];try omega)) only [↓AB,Aj,AA,Az,eq_self,Nat.reduceEqDiff,↓reduceIte,reduceCtorEq]
      refine BQ (out.length - (at'+1)) (by omega) (Nat.le_refl _) ⟨at'+1,rfl,by omega,fun j z hj hz => ?_,by simp [forget,get],rfl⟩
      rcases Nat.lt_succ_iff_lt_or_eq.1 hj with hj | rfl
      ·exact hlt j z hj hz
      ·rw [hga] at hz; cases hz
       by_cases e:ltB (Yb y) (Yb x)
       ·exact e
       ·exact absurd (BjW e hl1) hne
     ·simp -dsimp (disch:=first | assumption | omega | (simp only [Aa];try omega)) only [↓AB,Az,eq_self,Nat.reduceEqDiff,↓reduceIte,reduceCtorEq]
      refine Atp hx20 hg (by omega) (by omega) hat hk hcp fun k' v' H2 hk2 hl2 => ?_
      have i1:=hsd.insert hat hlt (fun z hz=>by rw [hga] at hz; cases hz; exact Decidable.not_not.1 hl1)
      have i2:=ADd (k:=at') (x:=x) hmem
      rw [←hsucc] at i2
      simp only [List.append_assoc,List.singleton_append] at hk2 ⊢
      generalize out.take at'++x::out.drop at'=out' at *
      simp -dsimp (disch:=first | assumption | omega | (simp only [Aa];try omega)) only [↓AB,Aj,AA,Az,eq_self,Nat.reduceEqDiff,↓reduceIte,reduceCtorEq,↓Aar]
      exact BQ (l.length - (i+1)) (by omega) (by omega) ⟨i+1,k',v',_,out',rfl,by omega,i1,i2,by simp [forget,get],hk2,Nat.le_refl _⟩
    ·have hat2:at'=out.length:=by omega
     subst hat2
     simp -dsimp (disch:=first | assumption | omega | (simp only [Aa];try omega)) only [↓AB,Aj,AA,Az,eq_self,Nat.reduceEqDiff,↓reduceIte,reduceCtorEq,↓Aas]
     refine Atp hx20 hg (by omega) (by omega) hat hk hcp fun k' v' H2 hk2 hl2 => ?_
     have i1:=hsd.insert hat hlt (fun z hz=>by rw [List.getElem?_eq_none (Nat.le_refl _)] at hz; cases hz)
     have i2:=ADd (k:=out.length) (x:=x) hmem
     rw [←hsucc] at i2
     simp only [List.append_assoc,List.singleton_append] at hk2 ⊢
     generalize out.take out.length++x::out.drop out.length=out' at *
     simp -dsimp (disch:=first | assumption | omega | (simp only [Aa];try omega)) only [↓AB,Aj,AA,Az,eq_self,Nat.reduceEqDiff,↓reduceIte,reduceCtorEq,↓Aar]
     exact BQ (l.length - (i+1)) (by omega) (by omega) ⟨i+1,k',v',_,out',rfl,by omega,i1,i2,by simp [forget,get],hk2,Nat.le_refl _⟩
  ·have hi2:i=l.length:=by omega
   subst hi2
   rw [List.take_length] at hmem
   simp -dsimp (disch:=first | assumption | omega | (simp only [Aa];try omega)) only [↓AB,Aj,AA,Az,eq_self,Nat.reduceEqDiff,↓reduceIte,reduceCtorEq,↓Aay,↓Ao7,↓Avp,hk]
   exact ⟨out,rfl,hsd,hmem⟩
theorem BrA {e:En} (h:AzA e):(enB e).length≤78:=by
 obtain ⟨h1,h2,h3⟩:=h
 have hn:=(Apy h2).2.1
 have ho:(AcS e.mode).length≤6:=by
  rcases Nc h1 with h | h | h | h<;>rw [h]<;>decide
 unfold enB
 simp only [List.length_append,List.length_cons]
 omega
theorem ADy:∀ {s:List En},(∀ e∈s,AzA e)→(s.flatMap enB).length≤78*s.length
 | [],_=>by simp
 | e::s,h=>by
  have h1:=BrA (h e (by simp))
  have h2:=ADy (s:=s) fun x hx=>h x (by simp [hx])
  rw [List.flatMap_cons,List.length_append,List.length_cons]
  omega
def Bpn (l:List En) (r:TV):Prop:=(Ac5 l→∃ s,SE s∧s.Perm l∧r = .tup [slB (s.flatMap enB),i64 ((0:Nat):Int)])∧(¬ Ac5 l→r = .tup [.val (.slice none 0 0),i64 ((21:Nat):Int)])
theorem ABS (l:List En) (h20:∀ x∈l,x.id.length=20) (hnm:∀ x∈l,x.name.length≤140737488351232) (hll:l.length≤140737488351232):Sr Tryz.prog 19 [.sl 22 (l.map enT)] (Bpn l):=by
 refine BD.toFreshV (AsM (by simp) ?_)
 have err:¬ Ac5 l→Bpn l (.tup [.val (.slice none 0 0),i64 ((21:Nat):Int)]):=fun h=>⟨fun h'=>absurd h' h,fun _=>rfl⟩
 by_cases hl:l.length≤2000
 case neg =>
  simp -dsimp (disch:=first | assumption | omega | (simp only [Aa];try omega)) only [↓AB,Aj,AA,Az,eq_self,Nat.reduceEqDiff,↓reduceIte,reduceCtorEq,↓Aau,↓Sm,↓Ju]
  exact err fun h=>hl h.1
 simp -dsimp (disch:=first | assumption | omega | (simp only [Aa];try omega)) only [↓AB,Aj,AA,Az,eq_self,↓reduceIte,reduceCtorEq,↓Aau,↓Sm,↓AiV,↓Aj0]
 refine FU (fun q e H=>∃ i:Nat,q=l.length - i∧i≤l.length∧(∀ e∈l.take i,AzA e)∧((l.take i).map (·.name)).Nodup∧e=[(0,.sl 22 (l.map enT)),(4,i64 (i:Int))]∧H=[]) l.length ?_ ?_
 ·exact ⟨0,by simp,by simp,by simp,by simp,rfl,rfl⟩
 ·rintro q e H ⟨i,rfl,hi,hall,hnd,rfl,rfl⟩
  by_cases hil:i<l.length
  ·have hg:l[i]?=some l[i]:=List.getElem?_eq_getElem hil
   have hm:=List.mem_of_getElem? hg
   have hxl:=h20 _ hm
   have hx20:(l[i].id.map by8).length=20:=by rw [List.length_map]; exact hxl
   have hxn:=hnm _ hm
   have hts:=List.take_succ_eq_append_getElem hil
   have htm:(l.take (i+1)).map (·.name)=(l.take i).map (·.name)++[l[i].name]:=by rw [hts,List.map_append]; rfl
   have hnx:((l.take (i+1)).map (·.name)).Nodup↔l[i].name∉(l.take i).map (·.name):=by
    rw [htm,List.nodup_append]
    exact ⟨fun ⟨_,_,g⟩ hm=>g _ hm _ (by simp) rfl,fun g=>⟨hnd,by simp,fun a ha b hb=>by rw [List.mem_singleton] at hb; subst hb; exact fun e=>g (e▸ha)⟩⟩
   have hpre:Ac5 l→((l.take (i+1)).map (·.name)).Nodup∧AzA l[i]:=fun h=>⟨h.2.2.sublist ((List.take_sublist _ _).map _),h.2.1 _ hm⟩
   have hall':AzA l[i]→∀ e∈l.take (i+1),AzA e:=fun h e he=>by
    rw [hts] at he
    rcases List.mem_append.1 he with he | he
    ·exact hall e he
    ·rw [List.mem_singleton] at he; subst he; exact h
   have hoc:=Bpl l[i].mode
   have hna:=ADS l[i].name (by omega)
   generalize hxi:l[i]=x at *
   simp -dsimp (disch:=first | assumption | omega | (simp only [Aa];try omega)) only [↓AB,Aj,AA,Az,eq_self,Nat.reduceEqDiff,↓reduceIte,Nat.reduceAdd,reduceCtorEq,↓Vf,↓AkX,hg]
   refine hna.calls rfl fun r hr => ?_
   subst hr
   cases hn:WW x.name with
   | false =>
    simp -dsimp (disch:=first | assumption | omega | (simp only [Aa];try omega)) only [↓AB,Aj,AA,Az,eq_self,Nat.reduceEqDiff,↓reduceIte,reduceCtorEq,↓V4,↓Ju]
    exact err fun h=>by have:=(hpre h).2.2.1; rw [hn] at this; cases this
   | true =>
    simp -dsimp (disch:=first | assumption | omega | (simp only [Aa];try omega)) only [↓AB,Aj,AA,Az,eq_self,Nat.reduceEqDiff,↓reduceIte,reduceCtorEq,↓V4,hg]
    refine hoc.calls rfl fun r hr => ?_
    subst hr
    cases hmo:Aai x.mode with
    | false =>
     have ho:=ACF.2 hmo
     simp -dsimp (disch:=first | assumption | omega | (simp only [Aa];try omega)) only [↓AB,Aj,AA,Az,eq_self,Nat.reduceEqDiff,↓reduceIte,reduceCtorEq,ho,↓Ju]
     exact err fun h=>by have:=(hpre h).2.1; rw [hmo] at this; cases this
    | true =>
     have ho:¬ AcS x.mode=[]:=fun e=>by rw [ACF,hmo] at e; cases e
     have hen:AzA x:=⟨hmo,hn,hxl⟩
     simp -dsimp (disch:=first | assumption | omega | (simp only [Aa];try omega)) only [↓AB,Aj,AA,Az,eq_self,Nat.reduceEqDiff,↓reduceIte,reduceCtorEq,ho,↓AkW,↓AjN]
     refine FU (fun q e H=>∃ k:Nat,q=i - k∧k≤i∧x.name∉(l.take k).map (·.name)∧e=[(0,.sl 22 (l.map enT)),(4,i64 (i:Int)),(6,i64 (k:Int))]∧H=[]) i ?_ ?_
     ·exact ⟨0,by simp,by simp,by simp,rfl,rfl⟩
     ·rintro q e H ⟨k,rfl,hk,hnk,rfl,rfl⟩
      by_cases hki:k<i
      ·have hkl:k<l.length:=by omega
       have hgk:l[k]?=some l[k]:=List.getElem?_eq_getElem hkl
       have hk20:(l[k].id.map by8).length=20:=by rw [List.length_map]; exact h20 _ (List.mem_of_getElem? hgk)
       have hks:(l.take (k+1)).map (·.name)=(l.take k).map (·.name)++[l[k].name]:=by rw [List.take_succ_eq_append_getElem hkl,List.map_append]; rfl
       have hkm:l[k].name∈(l.take i).map (·.name):=List.mem_map.2 ⟨l[k],by rw [List.mem_take_iff_getElem]; exact ⟨k,by omega,rfl⟩,rfl⟩
       generalize l[k]=y at *
       by_cases hyx:y.name=x.name
       ·simp -dsimp (disch:=first | assumption | omega | (simp only [Aa];try omega)) only [↓AB,Aj,AA,Az,eq_self,Nat.reduceEqDiff,↓reduceIte,Nat.reduceAdd,reduceCtorEq,hg,hgk,hyx,↓MP,↓VE,↓Ju]
        exact err fun h=>hnx.1 (hpre h).1 (hyx▸hkm)
       ·simp -dsimp (disch:=first | assumption | omega | (simp only [Aa];try omega)) only [↓AB,Aj,AA,Az,eq_self,Nat.reduceEqDiff,↓reduceIte,Nat.reduceAdd,reduceCtorEq,hg,hgk,hyx,↓MP,↓VE]
        refine BQ (i - (k+1)) (by omega) (by simp) ⟨k+1,rfl,by omega,?_,rfl,rfl⟩
        rw [hks]
        simp only [List.mem_append,List.mem_singleton,not_or]
        exact ⟨hnk,fun e=>hyx e.symm⟩
      ·have hki2:k=i:=by omega
       subst hki2
       simp -dsimp (disch:=first | assumption | omega | (simp only [Aa];try omega)) only [↓AB,Aj,AA,Az,eq_self,Nat.reduceEqDiff,↓reduceIte,reduceCtorEq,↓MP,↓AkI]
       exact BQ (l.length - (k+1)) (by omega) (by simp) ⟨k+1,rfl,by omega,hall' hen,hnx.2 hnk,rfl,rfl⟩
  ·have hi2:i=l.length:=by omega
   rw [hi2,List.take_length] at hnd hall
   have hok:Ac5 l:=⟨hl,hall,hnd⟩
   have hso:=AE5 l (by omega) h20 (fun x hx=>by have:=(Apy (hall x hx).2.1).2.1; omega) (AED hok)
   simp -dsimp (disch:=first | assumption | omega | (simp only [Aa];try omega)) only [↓AB,Aj,AA,Az,eq_self,Nat.reduceEqDiff,↓reduceIte,reduceCtorEq,↓Vf,↓AiW,↓Ai2]
   refine hso.calls rfl fun r hr => ?_
   obtain ⟨s,rfl,hse,hsp⟩:=hr
   have hsl:=hsp.length_eq
   have hsok:∀ e∈s,AzA e:=fun e he=>hall e (hsp.mem_iff.1 he)
   clear hso
   simp -dsimp (disch:=first | assumption | omega | (simp only [Aa];try omega)) only [↓AB,Aj,AA,Az,eq_self,Nat.reduceEqDiff,↓reduceIte,reduceCtorEq,↓Ajl,↓Ajf]
   refine FU (fun q e H=>∃ (j k v cp:Nat),q=s.length - j∧j≤s.length∧H[k]?=some (.obj v (.arr ((s.take j).flatMap enB).length 1 (((s.take j).flatMap enB).map by8)))∧e=[(7,.os 1 k v [] 0 ((s.take j).flatMap enB).length cp),(8,.sl 22 (s.map enT)),(9,i64 (j:Int))]) s.length ?_ ?_
   ·exact ⟨0,0,0,0,by simp,by simp,rfl,by simp [forget,get]⟩
   ·rintro q e H ⟨j,k,v,cp,rfl,hj,hk,rfl⟩
    have hkl:=Au3 hk
    by_cases hjl:j<s.length
    ·have hg:s[j]?=some s[j]:=List.getElem?_eq_getElem hjl
     have hen:=hsok _ (List.mem_of_getElem? hg)
     have hx20:(s[j].id.map by8).length=20:=by rw [List.length_map]; exact hen.2.2
     have hsn:(s.take (j+1)).flatMap enB=(s.take j).flatMap enB++enB s[j]:=by rw [List.take_succ_eq_append_getElem hjl,List.flatMap_append]; simp
     have hBl:=ADy (s:=s.take j) (fun e he=>hsok e (List.mem_of_mem_take he))
     have hBl2:(s.take j).length≤2000:=by simp; omega
     have hnl:=(Apy hen.2.1).2.1
     have hol:(AcS s[j].mode).length≤6:=by
      rcases Nc hen.1 with h | h | h | h<;>rw [h]<;>decide
     have hoc:=Bpl s[j].mode
     generalize (s.take j).flatMap enB=B at *
     generalize s[j]=x at *
     have hBt:(B.map by8).take B.length=B.map by8:=List.take_of_length_le (by simp)
     simp -dsimp (disch:=first | assumption | omega | (simp only [Aa];try omega)) only [↓AB,Aj,AA,Az,eq_self,Nat.reduceEqDiff,↓reduceIte,hg,↓Q7,↓Ai4]
     refine hoc.calls rfl fun r hr => ?_
     subst hr
     have hid20:x.id.length=20:=hen.2.2
     have hT1:List.take (B.length+(AcS x.mode).length) (B.map by8++(AcS x.mode).map by8)=B.map by8++(AcS x.mode).map by8:=List.take_of_length_le (by simp)
     have hT2:∀ y:TV,List.take (B.length+(AcS x.mode).length+1) (B.map by8++(AcS x.mode).map by8++[y])=B.map by8++(AcS x.mode).map by8++[y]:=fun y=>List.take_of_length_le (by simp; omega)
     have hT3:∀ y:TV,List.take (B.length+(AcS x.mode).length+1+x.name.length) (B.map by8++(AcS x.mode).map by8++[y]++x.name.map by8)=B.map by8++(AcS x.mode).map by8++[y]++x.name.map by8:=fun y=>List.take_of_length_le (by simp; omega)
     have hT4:∀ y z:TV,List.take (B.length+(AcS x.mode).length+1+x.name.length+1) (B.map by8++(AcS x.mode).map by8++[y]++x.name.map by8++[z])=B.map by8++(AcS x.mode).map by8++[y]++x.name.map by8++[z]:=fun y z=>List.take_of_length_le (by simp; omega)
     have hT5:List.take 20 (x.id.map by8)=x.id.map by8:=List.take_of_length_le (by simp; omega)
     simp -dsimp (disch:=first | assumption | omega | (simp only [Aa];try omega)) only [↓AB,Aj,AA,Az,eq_self,Nat.reduceEqDiff,↓reduceIte,Nat.reduceAdd,Nat.reduceLeDiff,hk,hBt,A8,Brf,hT1,hT2,hT3,hT4,↓Ai3,↓Ai0,hg,hx20]
     have eB:B.map by8++(AcS x.mode).map by8++[TV.val (.int .u8 ((32:Nat):Int))]++x.name.map by8++[TV.val (.int .u8 ((0:Nat):Int))]++x.id.map by8=(B++enB x).map by8:=by
      unfold enB
      simp only [List.map_append,List.map_cons,List.append_assoc,List.cons_append,List.nil_append]
      rfl
     have eL:B.length+(AcS x.mode).length+1+x.name.length+1+20=(B++enB x).length:=by
      unfold enB
      simp only [List.length_append,List.length_cons]
      omega
     rw [eB,eL,←hsn,List.append_assoc]
     refine BQ (s.length - (j+1)) (by omega) (by simp) ⟨j+1,k,_,_,rfl,by omega,?_,rfl⟩
     rw [List.getElem?_append_left (by simpa using hkl),List.getElem?_set_self hkl]
    ·have hj2:j=s.length:=by omega
     rw [hj2,List.take_length] at hk
     have htt:s.take j=s:=List.take_of_length_le (by omega)
     rw [htt]
     have hBt:((s.flatMap enB).map by8).take (s.flatMap enB).length=(s.flatMap enB).map by8:=List.take_of_length_le (by simp)
     simp -dsimp (disch:=first | assumption | omega | (simp only [Aa];try omega)) only [↓AB,Aj,AA,Az,eq_self,Nat.reduceEqDiff,↓reduceIte,hk,hBt,↓Q7,↓Ajt,↓Ju]
     exact ⟨fun _=>⟨s,hse,hsp,rfl⟩,fun h=>absurd hok h⟩
end
section
open Go.RowKit
variable [Cc]
abbrev BpH:TV := .arr 20 1 (List.replicate 20 (.val (.int .u8 ((0:Nat):Int))))
theorem AAP:∀ l:List En,NH (l.map enT)=true
 | []=>rfl
 | x::l=>by
  have hy:∀ l:List UInt8,NH (l.map by8)=true:=fun l=>by
   induction l with
   | nil=>rfl
   | cons b l ih=>rw [List.map_cons,NH,ih]; rfl
  rw [List.map_cons,NH,AAP l]
  show (true && (true && (NH (x.id.map by8) && true)) && true)=true
  rw [hy]; rfl
theorem BxA {b:List UInt8} {es:List En} {f k v cp N m:Nat} {H:List Ob} {Q:VEx→Env→List Ob→Prop} (hb:b.length≤1000000) (hf:f≤b.length+1) (hel:es.length≤1000000) (hNk:N≠k)
  (hk:H[k]?=some (.obj v (.arr es.length 22 (es.map enT)))) (hN:H[N]?=some (.obj 0 (.agg [i64 (m:Int),ts [],BpH])))
  (hno:∀ H' j,j≤(b.drop f).length→0∉(b.drop f).take j→((b.drop f)[j]?=some 0∨j=(b.drop f).length)→b.length<f+j+21→Q .ret [(2,.val (.slice none 0 0)),(3,tb false)] H')
  (hyes:∀ H' j v' cp' e,j≤(b.drop f).length→0∉(b.drop f).take j→((b.drop f)[j]?=some 0∨j=(b.drop f).length)→f+j+21≤b.length→H.length≤H'.length→e=⟨(m:Int),(b.drop f).take j,(b.drop (f+j+1)).take 20⟩→H'[k]?=some (.obj v' (.arr (es++[e]).length 22 ((es++[e]).map enT)))→Q .nor [(0,slB b),(4,.os 22 k v' [] 0 (es++[e]).length cp'),(5,i64 ((f+j+21:Nat):Int))] H') :
  vwp Tryz.prog ML Q [(0,slB b),(4,.os 22 k v [] 0 es.length cp),(5,i64 (f:Int)),(6,.op N 0 []),(7,i64 (f:Int))] H:=by
 have hDl:(b.drop f).length=b.length - f:=List.length_drop
 have hLe:∀ e:En,(es++[e]).length=es.length+1:=fun e=>by simp
 simp only [hLe] at hyes
 simp -dsimp (disch:=first | assumption | omega | (simp only [Aa];try omega)) only [↓AB,↓Amy]
 refine FU (fun q e H'=>∃ (j:Nat),q=(b.drop f).length - j∧j≤(b.drop f).length∧0∉(b.drop f).take j∧H'=H∧e=[(0,slB b),(4,.os 22 k v [] 0 es.length cp),(5,i64 ((f+j:Nat):Int)),(6,.op N 0 []),(7,i64 (f:Int))]) (b.drop f).length ?_ ?_
 ·exact ⟨0,rfl,Nat.zero_le _,List.not_mem_nil,rfl,rfl⟩
 rintro q e H' ⟨j,rfl,hj,h0,rfl,rfl⟩
 have tail:((b.drop f)[j]?=some 0∨j=(b.drop f).length)→vwp Tryz.prog Qu Q [(0,slB b),(4,.os 22 k v [] 0 es.length cp),(5,i64 ((f+j:Nat):Int)),(6,.op N 0 []),(7,i64 (f:Int))] H':=fun hend=>by
  by_cases h21:f+j+21≤b.length
  case neg =>
   simp -dsimp (disch:=first | assumption | omega | (simp only [Aa];try omega)) only [↓AB,Aj,AA,Az,eq_self,Nat.reduceEqDiff,↓reduceIte,reduceCtorEq,↓Xm]
   exact hno H' j hj h0 hend (by omega)
  have hNl:=Au3 hN
  have gN:∀ o:Ob,(H'.set N o)[N]?=some o:=fun o=>List.getElem?_set_self hNl
  have gk:∀ o:Ob,(H'.set N o)[k]?=some (.obj v (.arr es.length 22 (es.map enT))):=fun o=>by rw [List.getElem?_set_ne hNk]; exact hk
  have gk2:∀ (o:Ob) (T:List Ob),(H'.set N o++T)[k]?=some (.obj v (.arr es.length 22 (es.map enT))):=fun o T=>by rw [List.getElem?_append_left (by rw [List.length_set]; exact Au3 hk)]; exact gk o
  have hd1:(((b.map by8).drop (f+j+1)).take 20).length=20:=by simp; omega
  have hq0:f+j+21 - (f+j+1)=20:=by omega
  have hq1:∀ l:List UInt8,List.take 20 (List.take 20 l)=List.take 20 l:=fun l=>by rw [List.take_take,Nat.min_self]
  have hq2:(List.take 20 (List.drop (f+j+1) b)).length=20:=by simp; omega
  have hq3:∀ z:TV,List.drop 20 (List.replicate 20 z)=[]:=fun z=>rfl
  have hq4:∀ y z:TV,List.take 1 ((List.replicate 1 z).set 0 y)=[y]:=fun y z=>rfl
  simp -dsimp (disch:=first | assumption | omega | (simp only [Aa];try omega)) only [↓AB,Aj,AA,Az,eq_self,Nat.reduceEqDiff,↓reduceIte,Nat.reduceAdd,reduceCtorEq,Nat.reduceLeDiff,hN,gN,gk2,hq0,hq2,hq3,hq4,Nat.min_self,List.append_nil,↓Xm,↓AmD,↓AmJ]
  have hkl:=Au3 hk
  refine hyes _ j (v+1) (es.length+1) ⟨(m:Int),(b.drop f).take j,(b.drop (f+j+1)).take 20⟩ hj h0 hend h21 (by simp) rfl ?_
  rw [List.getElem?_set_self (by simp; omega),List.map_append]; rfl
 by_cases hjl:j<(b.drop f).length
 case neg =>
  simp -dsimp (disch:=first | assumption | omega | (simp only [Aa];try omega)) only [↓AB,Aj,AA,Az,eq_self,Nat.reduceEqDiff,↓reduceIte,reduceCtorEq,↓Nu]
  exact tail (.inr (by omega))
 obtain ⟨c,hc⟩:∃ c,(b.drop f)[j]?=some c:=⟨_,List.getElem?_eq_getElem hjl⟩
 have hc8:(b.map by8)[f+j]?=some (by8 c):=by rw [List.getElem?_drop] at hc; rw [List.getElem?_map,hc]; rfl
 by_cases hc0:c.toNat=0
 ·simp -dsimp (disch:=first | assumption | omega | (simp only [Aa];try omega)) only [↓AB,Aj,AA,Az,eq_self,Nat.reduceEqDiff,↓reduceIte,reduceCtorEq,hc8,hc0,↓Nu]
  exact tail (.inl (by rw [hc,show c=0 from UInt8.toNat_inj.1 hc0]))
 simp -dsimp (disch:=first | assumption | omega | (simp only [Aa];try omega)) only [↓AB,Aj,AA,Az,eq_self,Nat.reduceEqDiff,↓reduceIte,reduceCtorEq,hc8,hc0,↓Nu]
 refine BQ ((b.drop f).length - (j+1)) (by omega) (by simp) ⟨j+1,by omega,by omega,?_,rfl,rfl⟩
 rw [List.take_add_one,hc]
 simp only [Option.toList_some,List.mem_append,List.mem_singleton,not_or]
 exact ⟨h0,fun e=>hc0 (by rw [←e]; rfl)⟩
theorem Axz (b:List UInt8) (hb:b.length≤1000000):Sr Tryz.prog 54 [slB b] (BjU b):=by
 refine BD.toFreshV (Aue (by simp) ?_)
 have err:(∀ l,¬ U2 l b)→BjU b (.tup [.val (.slice none 0 0),tb false]):=fun h=>⟨fun l hl=>absurd hl (h l),fun _=>rfl⟩
 simp -dsimp (disch:=first | assumption | omega | (simp only [Aa];try omega)) only [↓AB,Aj,AA,Az,eq_self,Nat.reduceEqDiff,↓reduceIte,reduceCtorEq,↓AsN,↓Ala,↓AlG,↓Ak6]
 refine FU (fun q e H=>∃ (es:List En) (a k v cp:Nat),q=b.length - a∧PR b es a∧H[k]?=some (.obj v (.arr es.length 22 (es.map enT)))∧e=[(0,slB b),(4,.os 22 k v [] 0 es.length cp),(5,i64 (a:Int))]) b.length ?_ ?_
 ·exact ⟨[],0,0,0,0,rfl,PR.start b,rfl,rfl⟩
 ·rintro q e H ⟨es,a,k,v,cp,rfl,hP,hk,rfl⟩
  have hkl:=Au3 hk
  have hal:=hP.le
  by_cases ha:a<b.length
  case neg =>
   have hae:a=b.length:=by omega
   subst hae
   have hkt:(es.map enT).take es.length=es.map enT:=List.take_of_length_le (by simp)
   have hfew:=hP.few
   simp -dsimp (disch:=first | assumption | omega | (simp only [Aa];try omega)) only [↓AB,Aj,AA,Az,eq_self,Nat.reduceEqDiff,↓reduceIte,reduceCtorEq,↓V3,↓Aka]
   refine (ABS es hP.ids (fun x hx=>by have:=hP.nms x hx; omega) (by omega)).lends (args':=[.sl 22 (es.map enT)]) (by simp -dsimp (disch:=first | assumption | omega | (simp only [Aa];try omega)) only [AA,Az,eq_self,↓reduceIte,hk,hkt]) fun r hr => ?_
   by_cases hok:Ac5 es
   case neg =>
    rw [hr.2 hok]
    simp -dsimp (disch:=first | assumption | omega | (simp only [Aa];try omega)) only [↓AB,Aj,AA,Az,eq_self,Nat.reduceEqDiff,↓reduceIte,reduceCtorEq,↓MQ,↓Gn]
    exact err fun l hl=>hok (by rw [←hP.fin hl]; exact hl.1)
   obtain ⟨s,hs1,hs2,rfl⟩:=hr.1 hok
   clear hr
   by_cases hsb:s.flatMap enB=b
   ·have hT:U2 s b:=⟨⟨by rw [hs2.length_eq]; exact hok.1,fun e he=>hok.2.1 e (hs2.mem_iff.1 he),((hs2.map (·.name)).nodup_iff).2 hok.2.2⟩,hs1,hsb⟩
    rw [hsb]
    simp -dsimp (disch:=first | assumption | omega | (simp only [Aa];try omega)) only [↓AB,Aj,AA,Az,eq_self,Nat.reduceEqDiff,↓reduceIte,reduceCtorEq,hk,hkt,↓MQ,↓Gn]
    rw [if_pos (AAP _)]
    exact ⟨fun l hl=>by rw [hP.fin hl],fun h=>absurd hT (h s)⟩
   ·simp -dsimp (disch:=first | assumption | omega | (simp only [Aa];try omega)) only [↓AB,Aj,AA,Az,eq_self,Nat.reduceEqDiff,↓reduceIte,reduceCtorEq,hsb,↓MQ,↓Gn]
    refine err fun l hl=>hsb ?_
    have he:=hP.fin hl
    subst he
    rw [hs1.ext hl.2.1 hs2]; exact hl.2.2
  have hz:∀ T:List Ob,(H++T)[k]?=H[k]?:=fun T=>List.getElem?_append_left hkl
  simp -dsimp (disch:=first | assumption | omega | (simp only [Aa];try omega)) only [↓AB,Aj,AA,Az,eq_self,Nat.reduceEqDiff,↓reduceIte,reduceCtorEq,↓V3,↓Aki,↓AkY]
  refine FU (fun q e H'=>∃ (i:Nat),q=(b.drop a).length - i∧i≤(b.drop a).length∧32∉(b.drop a).take i∧AmY 0 ((b.drop a).take i)≤8388615∧H.length<H'.length∧H'[k]?=some (.obj v (.arr es.length 22 (es.map enT))) ∧
   H'[H.length]?=some (.obj 0 (.agg [i64 ((AmY 0 ((b.drop a).take i):Nat):Int),ts [],BpH]))∧e=[(0,slB b),(4,.os 22 k v [] 0 es.length cp),(5,i64 ((a+i:Nat):Int)),(6,.op H.length 0 [])]) (b.drop a).length ?_ ?_
  ·exact ⟨0,rfl,Nat.zero_le _,List.not_mem_nil,Nat.zero_le _,by simp,by rw [hz]; exact hk,by rw [List.getElem?_append_right (Nat.le_refl _),Nat.sub_self]; rfl,rfl⟩
  rintro q e H' ⟨i,rfl,hi,h32,hm,hHl,hk',hn',rfl⟩
  have hDl:(b.drop a).length=b.length - a:=List.length_drop
  have tail:((b.drop a)[i]?=some 32∨i=(b.drop a).length)→vwp Tryz.prog ML (Blk 1 (Rnd 1 [0,4,5] (Blk 0 (Thn Tryz.prog Ov (Awf Za fun x H'=>EC (frs H' x) (BjU b)))) (fun q e H=>∃ (es:List En) (a k v cp:Nat),q=b.length - a∧PR b es a∧H[k]?=some (.obj v (.arr es.length 22 (es.map enT)))∧e=[(0,slB b),(4,.os 22 k v [] 0 es.length cp),(5,i64 (a:Int))]) (b.length - a))) [(0,slB b),(4,.os 22 k v [] 0 es.length cp),(5,i64 ((a+i+1:Nat):Int)),(6,.op H.length 0 []),(7,i64 ((a+i+1:Nat):Int))] H':=fun hend=>by
   have hfew:=hP.few
   refine BxA hb (by omega) (by omega) (by omega) hk' hn' (fun H2 j hj h0 hj2 hlt => ?_) (fun H2 j v' cp' e hj h0 hj2 hle hHl2 he hk2 => ?_)
   ·simp -dsimp (disch:=first | assumption | omega | (simp only [Aa];try omega)) only [↓AB,Aj,AA,Az,eq_self,Nat.reduceEqDiff,↓reduceIte,↓Gn]
    refine err (hP.no ha fun x r hx h => ?_)
    have:=(Blp hx h hi h32 hend hj h0 hj2).1
    omega
   ·have hst:PR b (es++[e]) (a+i+1+j+21):=hP.step (by omega) hle (by rw [he]; simp; omega) (by rw [he]; simp; omega) fun x r hx h=>by
     obtain ⟨_,k1,k2⟩:=Blp hx h hi h32 hend hj h0 hj2
     exact ⟨by rw [k1,he],k2⟩
    have hLe:(es++[e]).length=es.length+1:=by simp
    simp -dsimp (disch:=first | assumption | omega | (simp only [Aa];try omega)) only [↓AB,Az]
    refine BQ (b.length - (a+i+1+j+21)) (by omega) (by omega) ⟨es++[e],a+i+1+j+21,k,v',cp',rfl,hst,hk2,by rw [hLe]; rfl⟩
  by_cases hil:i<(b.drop a).length
  case neg =>
   have hie:i=(b.drop a).length:=by omega
   simp -dsimp (disch:=first | assumption | omega | (simp only [Aa];try omega)) only [↓AB,Aj,AA,Az,eq_self,Nat.reduceEqDiff,↓reduceIte,reduceCtorEq,↓Gf,↓V8,↓WN]
   exact tail (.inr hie)
  obtain ⟨c,hc⟩:∃ c,(b.drop a)[i]?=some c:=⟨_,List.getElem?_eq_getElem hil⟩
  have hc8:(b.map by8)[a+i]?=some (by8 c):=by rw [List.getElem?_drop] at hc; rw [List.getElem?_map,hc]; rfl
  by_cases hc32:c.toNat=32
  ·simp -dsimp (disch:=first | assumption | omega | (simp only [Aa];try omega)) only [↓AB,Aj,AA,Az,eq_self,Nat.reduceEqDiff,↓reduceIte,reduceCtorEq,hc8,hc32,↓Gf,↓V8,↓WN]
   exact tail (.inl (by rw [hc,show c=32 from UInt8.toNat_inj.1 hc32]))
  have hb0:(Ajq c=true→AmY 0 ((b.drop a).take i)≤1048576→False)→∀ l,¬ U2 l b:=fun h=>hP.no ha fun x r hx h'=>by
   obtain ⟨k1,k2⟩:=BpS hx h' hi h32 hc fun e=>hc32 (by rw [e]; rfl)
   exact h k1 k2
  by_cases hlo:c.toNat<48
  ·simp -dsimp (disch:=first | assumption | omega | (simp only [Aa];try omega)) only [↓AB,Aj,AA,Az,eq_self,Nat.reduceEqDiff,↓reduceIte,reduceCtorEq,hc8,hc32,hlo,↓Gf,↓KL,↓Gn]
   exact err (hb0 fun h _=>by simp [Ajq] at h; omega)
  by_cases hhi:55<c.toNat
  ·simp -dsimp (disch:=first | assumption | omega | (simp only [Aa];try omega)) only [↓AB,Aj,AA,Az,eq_self,Nat.reduceEqDiff,↓reduceIte,reduceCtorEq,hc8,hc32,hlo,hhi,↓Gf,↓KL,↓Gn]
   exact err (hb0 fun h _=>by simp [Ajq] at h; omega)
  by_cases hbig:1048576<AmY 0 ((b.drop a).take i)
  ·simp -dsimp (disch:=first | assumption | omega | (simp only [Aa];try omega)) only [↓AB,Aj,AA,Az,eq_self,Nat.reduceEqDiff,↓reduceIte,reduceCtorEq,hc8,hc32,hlo,hhi,hbig,hn',↓Gf,↓KL,↓Gn]
   exact err (hb0 fun _ h=>by omega)
  have hbs:Jh 5 BinOp.sub (.int .u8 (c.toNat:Int)) (.int .u8 ((48:Nat):Int))=some (.int .u8 ((c.toNat - 48:Nat):Int)):=Ux (by omega) (by have:=c.toNat_lt; omega)
  simp -dsimp (disch:=first | assumption | omega | (simp only [Aa];try omega)) only [↓AB,Aj,AA,Az,eq_self,Nat.reduceEqDiff,↓reduceIte,reduceCtorEq,hc8,hc32,hlo,hhi,hbig,hn',hbs,↓Gf,↓KL,↓Amx]
  have hsn:(b.drop a).take (i+1)=(b.drop a).take i++[c]:=by rw [List.take_add_one,hc]; rfl
  have hsm:AmY 0 ((b.drop a).take (i+1))=AmY 0 ((b.drop a).take i)*8+(c.toNat - 48):=by rw [hsn,Arw]; rfl
  refine BQ ((b.drop a).length - (i+1)) (by omega) (by simp; omega) ⟨i+1,by omega,by omega,?_,by omega,by rw [List.length_set]; exact hHl,?_,?_,rfl⟩
  ·rw [hsn]
   simp only [List.mem_append,List.mem_singleton,not_or]
   exact ⟨h32,fun e=>hc32 (by rw [←e]; rfl)⟩
  ·rw [List.getElem?_set_ne (by omega)]; exact hk'
  ·rw [List.getElem?_set_self hHl,hsm]
end
section
open Go.RowKit
variable [Cc]
def BsN (c:UInt8):Bool:=c.toNat == 60 || c.toNat == 62 || c.toNat == 10 || c.toNat == 0
theorem ADi {c:UInt8}:BsN c=false↔c≠60∧c≠62∧c≠10∧c≠0:=by
 unfold BsN
 have e:∀ k:UInt8,c=k↔c.toNat=k.toNat:=fun k=>⟨fun h=>by rw [h],fun h=>UInt8.toNat_inj.1 h⟩
 simp only [Ne,e]
 simp
 omega
theorem Bk8 (s:List UInt8):CE Tryz.prog 68 [ts s] (fun x=>x=tb (decide (MV s))):=by
 refine BD.toPureV (AxQ (by simp) ?_)
 by_cases h60:s.length≤60
 case neg =>
  have e:decide (MV s)=false:=by
   rw [decide_eq_false_iff_not]
   exact fun h=>h60 h.1
  rw [e]
  simp -dsimp (disch:=first | assumption | omega | (simp only [Aa];try omega)) only [↓AB,Aj,AA,Az,eq_self,↓reduceIte,reduceCtorEq,↓AnG,↓AeW,↓Gy,A8]
 simp -dsimp (disch:=first | assumption | omega | (simp only [Aa];try omega)) only [↓AB,Aj,AA,Az,eq_self,↓reduceIte,reduceCtorEq,↓AnG,↓AeW,↓As6,↓As5,A8]
 refine FU (fun q e H=>∃ i:Nat,q=s.length - i∧i≤s.length∧(∀ c∈s.take i,BsN c=false)∧e=[(0,ts s),(3,i64 (i:Int))]∧H=[]) s.length ?_ ?_
 ·exact ⟨0,rfl,by omega,by simp,rfl,rfl⟩
 ·rintro q e H ⟨i,rfl,hi,hno,rfl,rfl⟩
  by_cases h:i<s.length
  ·have hg:s[i]?=some s[i]:=List.getElem?_eq_getElem h
   have hsucc:=List.take_succ_eq_append_getElem h
   generalize s[i]=c at *
   cases hb:BsN c with
   | true =>
    have e:decide (MV s)=false:=by
     rw [decide_eq_false_iff_not]
     intro hp
     have:=ADi.2 (hp.2.1 c (List.mem_of_getElem? hg))
     rw [hb] at this; cases this
    rw [e]
    by_cases c1:c.toNat=60
    ·simp -dsimp (disch:=first | assumption | omega | (simp only [Aa];try omega)) only [↓AB,Aj,AA,Az,eq_self,Nat.reduceEqDiff,↓reduceIte,reduceCtorEq,↓Ey,↓KT,↓Gy,A8,hg]
    by_cases c2:c.toNat=62
    ·simp -dsimp (disch:=first | assumption | omega | (simp only [Aa];try omega)) only [↓AB,Aj,AA,Az,eq_self,Nat.reduceEqDiff,↓reduceIte,reduceCtorEq,↓Ey,↓KT,↓Gy,A8,hg]
    by_cases c3:c.toNat=10
    ·simp -dsimp (disch:=first | assumption | omega | (simp only [Aa];try omega)) only [↓AB,Aj,AA,Az,eq_self,Nat.reduceEqDiff,↓reduceIte,reduceCtorEq,↓Ey,↓KT,↓Gy,A8,hg]
    have c4:c.toNat=0:=by unfold BsN at hb; simp [c1,c2,c3] at hb; exact hb
    simp -dsimp (disch:=first | assumption | omega | (simp only [Aa];try omega)) only [↓AB,Aj,AA,Az,eq_self,Nat.reduceEqDiff,↓reduceIte,reduceCtorEq,↓Ey,↓KT,↓Gy,A8,hg]
   | false =>
    have hb':=hb
    unfold BsN at hb'
    simp only [Bool.or_eq_false_iff,beq_eq_false_iff_ne] at hb'
    obtain ⟨⟨⟨c1,c2⟩,c3⟩,c4⟩:=hb'
    simp -dsimp (disch:=first | assumption | omega | (simp only [Aa];try omega)) only [↓AB,Aj,AA,Az,eq_self,Nat.reduceEqDiff,↓reduceIte,reduceCtorEq,↓Ey,↓KT,A8,hg]
    exact BQ (s.length - (i+1)) (by omega) (by simp) ⟨i+1,rfl,by omega,(fun c' hc'=>by rw [hsucc] at hc'; rcases List.mem_append.1 hc' with h1 | h1; exact hno c' h1; simp at h1; rw [h1]; exact hb),rfl,rfl⟩
  ·have hi2:i=s.length:=by omega
   subst hi2
   rw [List.take_length] at hno
   have e:MV s↔s[0]?≠some 32∧s[s.length - 1]?≠some 32:=by
    unfold MV
    exact ⟨fun h=>h.2.2,fun h=>⟨h60,fun c hc=>ADi.1 (hno c hc),h⟩⟩
   by_cases hz:s.length=0
   ·have hs:s=[]:=List.eq_nil_of_length_eq_zero hz
    subst hs
    have eD:decide (MV [])=true:=by rw [decide_eq_true_eq,e]; simp
    rw [eD]
    simp -dsimp (disch:=first | assumption | omega | (simp only [Aa];try omega)) only [↓AB,Aj,AA,Az,eq_self,Nat.reduceLT,Nat.reduceEqDiff,↓reduceIte,reduceCtorEq,↓Ey,↓Nl,↓Gy,A8]
   ·have h0:s[0]?=some s[0]:=List.getElem?_eq_getElem (by omega)
    have h1:s[s.length - 1]?=some s[s.length - 1]:=List.getElem?_eq_getElem (by omega)
    generalize s[0]=a at *
    generalize s[s.length - 1]=b at *
    have ea:a=32↔a.toNat=32:=⟨fun h=>by rw [h]; rfl,fun h=>UInt8.toNat_inj.1 h⟩
    have eb:b=32↔b.toNat=32:=⟨fun h=>by rw [h]; rfl,fun h=>UInt8.toNat_inj.1 h⟩
    have eD:MV s↔¬ a.toNat=32∧¬ b.toNat=32:=by
     rw [e,h0,h1]
     simp only [Ne,Option.some.injEq,ea,eb]
    clear e ea eb
    by_cases c1:a.toNat=32
    ·have eF:decide (MV s)=false:=by rw [decide_eq_false_iff_not,eD]; exact fun h=>h.1 c1
     rw [eF]
     simp -dsimp (disch:=first | assumption | omega | (simp only [Aa];try omega)) only [↓AB,Aj,AA,Az,eq_self,Nat.reduceEqDiff,↓reduceIte,reduceCtorEq,↓Ey,↓Nl,↓Gy,A8,h0]
    ·by_cases c2:b.toNat=32
     ·have eF:decide (MV s)=false:=by rw [decide_eq_false_iff_not,eD]; exact fun h=>h.2 c2
      rw [eF]
      simp -dsimp (disch:=first | assumption | omega | (simp only [Aa];try omega)) only [↓AB,Aj,AA,Az,eq_self,Nat.reduceEqDiff,↓reduceIte,reduceCtorEq,↓Ey,↓Nl,↓Gy,A8,h0,h1]
      simp [c2]
     ·have eF:decide (MV s)=true:=by rw [decide_eq_true_eq,eD]; exact ⟨c1,c2⟩
      rw [eF]
      simp -dsimp (disch:=first | assumption | omega | (simp only [Aa];try omega)) only [↓AB,Aj,AA,Az,eq_self,Nat.reduceEqDiff,↓reduceIte,reduceCtorEq,↓Ey,↓Nl,↓Gy,A8,h0,h1]
      simp [c2]
theorem AzB (s:List UInt8):CE Tryz.prog 34 [ts s] (fun x=>x=tb (Wq s)):=by
 refine BD.toPureV (AvD (by simp) ?_)
 by_cases hl:s.length≤2000
 case neg =>
  have e:Wq s=false:=by unfold Wq; simp [hl]
  rw [e]
  simp -dsimp (disch:=first | assumption | omega | (simp only [Aa];try omega)) only [↓AB,Aj,AA,Az,eq_self,↓reduceIte,reduceCtorEq,↓NT,A8]
 simp -dsimp (disch:=first | assumption | omega | (simp only [Aa];try omega)) only [↓AB,Aj,AA,Az,eq_self,↓reduceIte,reduceCtorEq,↓NT,A8]
 refine FU (fun q e H=>∃ i:Nat,q=s.length - i∧i≤s.length∧0∉s.take i∧e=[(0,ts s),(3,i64 (i:Int))]∧H=[]) s.length ?_ ?_
 ·exact ⟨0,rfl,by omega,by simp,rfl,rfl⟩
 ·rintro q e H ⟨i,rfl,hi,hno,rfl,rfl⟩
  by_cases h:i<s.length
  ·have hg:s[i]?=some s[i]:=List.getElem?_eq_getElem h
   have hsucc:=List.take_succ_eq_append_getElem h
   generalize s[i]=c at *
   by_cases hc:c.toNat=0
   ·have hc0:c=0:=UInt8.toNat_inj.1 hc
    have e:Wq s=false:=by unfold Wq; simp; intro _; rw [←hc0]; exact List.mem_of_getElem? hg
    rw [e]
    simp -dsimp (disch:=first | assumption | omega | (simp only [Aa];try omega)) only [↓AB,Aj,AA,Az,eq_self,Nat.reduceEqDiff,↓reduceIte,reduceCtorEq,↓NT,A8,hg]
   ·simp -dsimp (disch:=first | assumption | omega | (simp only [Aa];try omega)) only [↓AB,Aj,AA,Az,eq_self,Nat.reduceEqDiff,↓reduceIte,reduceCtorEq,↓NT,A8,hg]
    exact BQ (s.length - (i+1)) (by omega) (by simp) ⟨i+1,rfl,by omega,(by rw [hsucc]; intro hm; rcases List.mem_append.1 hm with h1 | h1; exact hno h1; simp at h1; exact hc (by rw [←h1]; rfl)),rfl,rfl⟩
  ·have hi2:i=s.length:=by omega
   subst hi2
   rw [List.take_length] at hno
   have e:Wq s=true:=by unfold Wq; simp [hl,hno]
   rw [e]
   simp -dsimp (disch:=first | assumption | omega | (simp only [Aa];try omega)) only [↓AB,Aj,AA,Az,eq_self,Nat.reduceEqDiff,↓reduceIte,reduceCtorEq,↓NT,A8]
theorem BqE (s:List UInt8):CE Tryz.prog 32 [ts s] (fun x=>x=tb (Wx s)):=by
 refine BD.toPureV (AyA (by simp) ?_)
 by_cases h0:1≤s.length
 case neg =>
  have e:Wx s=false:=by unfold Wx; simp; omega
  rw [e]
  simp -dsimp (disch:=first | assumption | omega | (simp only [Aa];try omega)) only [↓AB,Aj,AA,Az,eq_self,Nat.reduceEqDiff,↓reduceIte,reduceCtorEq,↓Aca,↓TI,↓JF,A8]
 by_cases hl:s.length≤60
 case neg =>
  have e:Wx s=false:=by unfold Wx; simp [hl]
  rw [e]
  simp -dsimp (disch:=first | assumption | omega | (simp only [Aa];try omega)) only [↓AB,Aj,AA,Az,eq_self,Nat.reduceEqDiff,↓reduceIte,reduceCtorEq,↓Aca,↓TI,↓JF,A8]
 simp -dsimp (disch:=first | assumption | omega | (simp only [Aa];try omega)) only [↓AB,Aj,AA,Az,eq_self,Nat.reduceEqDiff,↓reduceIte,reduceCtorEq,↓Aca,↓TI,↓Ata,↓Ase,A8]
 refine FU (fun q e H=>∃ i:Nat,q=s.length - i∧i≤s.length∧(s.take i).all Agf=true∧e=[(0,ts s),(3,i64 (i:Int))]∧H=[]) s.length ?_ ?_
 ·exact ⟨0,rfl,by omega,by simp,rfl,rfl⟩
 ·rintro q e H ⟨i,rfl,hi,hno,rfl,rfl⟩
  by_cases h:i<s.length
  ·have hg:s[i]?=some s[i]:=List.getElem?_eq_getElem h
   have hsucc:=List.take_succ_eq_append_getElem h
   generalize s[i]=c at *
   have hb:=c.toNat_lt
   have hlet:Agf c=decide ((97≤c.toNat∧c.toNat≤122)∨(65≤c.toNat∧c.toNat≤90)∨(48≤c.toNat∧c.toNat≤57)∨c.toNat=46∨c.toNat=95∨c.toNat=45∨c.toNat=47):=by
    have e:∀ k:UInt8,(c == k)=decide (c.toNat=k.toNat):=fun k=>by
     rw [Bool.eq_iff_iff,beq_iff_eq,decide_eq_true_eq]
     exact ⟨fun h=>by rw [h],fun h=>UInt8.toNat_inj.1 h⟩
    unfold Agf
    simp only [e]
    rw [Bool.eq_iff_iff]
    simp [or_assoc]
   have bad:Agf c=false→Wx s=false:=fun hc=>by
    unfold Wx
    rw [Bool.and_eq_false_iff]
    refine .inr ?_
    rw [Bool.eq_false_iff]
    intro ha
    have:=List.all_eq_true.1 ha c (List.mem_of_getElem? hg)
    rw [hc] at this; cases this
   have good:Agf c=true→(s.take (i+1)).all Agf=true:=fun hc=>by rw [hsucc,List.all_append,hno]; simp [hc]
   by_cases r1:97≤c.toNat
   ·have x1:65≤c.toNat:=by omega
    have x2:48≤c.toNat:=by omega
    have x3:¬ c.toNat≤90:=by omega
    have x4:¬ c.toNat≤57:=by omega
    have y1:¬ c.toNat=46:=by omega
    have y2:¬ c.toNat=95:=by omega
    have y3:¬ c.toNat=45:=by omega
    have y4:¬ c.toNat=47:=by omega
    by_cases r2:c.toNat≤122
    ·have hgd:=good (by rw [hlet,decide_eq_true_eq]; omega)
     simp -dsimp (disch:=first | assumption | omega | (simp only [Aa];try omega)) only [↓AB,Aj,AA,Az,eq_self,Nat.reduceEqDiff,↓reduceIte,reduceCtorEq,↓CZ,↓DN,↓DU,↓DL,A8,hg]
     exact BQ (s.length - (i+1)) (by omega) (by simp) ⟨i+1,rfl,by omega,hgd,rfl,rfl⟩
    ·rw [bad (by rw [hlet,decide_eq_false_iff_not]; omega)]
     simp -dsimp (disch:=first | assumption | omega | (simp only [Aa];try omega)) only [↓AB,Aj,AA,Az,eq_self,Nat.reduceEqDiff,↓reduceIte,reduceCtorEq,↓CZ,↓DN,↓DU,↓DL,↓JF,A8,hg]
   by_cases r2:65≤c.toNat
   ·have x2:48≤c.toNat:=by omega
    have x4:¬ c.toNat≤57:=by omega
    have y1:¬ c.toNat=46:=by omega
    have y3:¬ c.toNat=45:=by omega
    have y4:¬ c.toNat=47:=by omega
    by_cases r3:c.toNat≤90
    ·have hgd:=good (by rw [hlet,decide_eq_true_eq]; omega)
     simp -dsimp (disch:=first | assumption | omega | (simp only [Aa];try omega)) only [↓AB,Aj,AA,Az,eq_self,Nat.reduceEqDiff,↓reduceIte,reduceCtorEq,↓CZ,↓DN,↓DU,↓DL,A8,hg]
     exact BQ (s.length - (i+1)) (by omega) (by simp) ⟨i+1,rfl,by omega,hgd,rfl,rfl⟩
    by_cases y2:c.toNat=95
    ·have hgd:=good (by rw [hlet,decide_eq_true_eq]; omega)
     simp -dsimp (disch:=first | assumption | omega | (simp only [Aa];try omega)) only [↓AB,Aj,AA,Az,eq_self,Nat.reduceEqDiff,↓reduceIte,reduceCtorEq,↓CZ,↓DN,↓DU,↓DL,A8,hg]
     exact BQ (s.length - (i+1)) (by omega) (by simp) ⟨i+1,rfl,by omega,hgd,rfl,rfl⟩
    ·rw [bad (by rw [hlet,decide_eq_false_iff_not]; omega)]
     simp -dsimp (disch:=first | assumption | omega | (simp only [Aa];try omega)) only [↓AB,Aj,AA,Az,eq_self,Nat.reduceEqDiff,↓reduceIte,reduceCtorEq,↓CZ,↓DN,↓DU,↓DL,↓JF,A8,hg]
   by_cases r3:48≤c.toNat
   ·have y1:¬ c.toNat=46:=by omega
    have y2:¬ c.toNat=95:=by omega
    have y3:¬ c.toNat=45:=by omega
    have y4:¬ c.toNat=47:=by omega
    by_cases r4:c.toNat≤57
    ·have hgd:=good (by rw [hlet,decide_eq_true_eq]; omega)
     simp -dsimp (disch:=first | assumption | omega | (simp only [Aa];try omega)) only [↓AB,Aj,AA,Az,eq_self,Nat.reduceEqDiff,↓reduceIte,reduceCtorEq,↓CZ,↓DN,↓DU,↓DL,A8,hg]
     exact BQ (s.length - (i+1)) (by omega) (by simp) ⟨i+1,rfl,by omega,hgd,rfl,rfl⟩
    ·rw [bad (by rw [hlet,decide_eq_false_iff_not]; omega)]
     simp -dsimp (disch:=first | assumption | omega | (simp only [Aa];try omega)) only [↓AB,Aj,AA,Az,eq_self,Nat.reduceEqDiff,↓reduceIte,reduceCtorEq,↓CZ,↓DN,↓DU,↓DL,↓JF,A8,hg]
   have y2:¬ c.toNat=95:=by omega
   by_cases y1:c.toNat=46
   ·have hgd:=good (by rw [hlet,decide_eq_true_eq]; omega)
    simp -dsimp (disch:=first | assumption | omega | (simp only [Aa];try omega)) only [↓AB,Aj,AA,Az,eq_self,Nat.reduceEqDiff,↓reduceIte,reduceCtorEq,↓CZ,↓DN,↓DU,↓DL,A8,hg]
    exact BQ (s.length - (i+1)) (by omega) (by simp) ⟨i+1,rfl,by omega,hgd,rfl,rfl⟩
   by_cases y3:c.toNat=45
   ·have hgd:=good (by rw [hlet,decide_eq_true_eq]; omega)
    simp -dsimp (disch:=first | assumption | omega | (simp only [Aa];try omega)) only [↓AB,Aj,AA,Az,eq_self,Nat.reduceEqDiff,↓reduceIte,reduceCtorEq,↓CZ,↓DN,↓DU,↓DL,A8,hg]
    exact BQ (s.length - (i+1)) (by omega) (by simp) ⟨i+1,rfl,by omega,hgd,rfl,rfl⟩
   by_cases y4:c.toNat=47
   ·have hgd:=good (by rw [hlet,decide_eq_true_eq]; omega)
    simp -dsimp (disch:=first | assumption | omega | (simp only [Aa];try omega)) only [↓AB,Aj,AA,Az,eq_self,Nat.reduceEqDiff,↓reduceIte,reduceCtorEq,↓CZ,↓DN,↓DU,↓DL,A8,hg]
    exact BQ (s.length - (i+1)) (by omega) (by simp) ⟨i+1,rfl,by omega,hgd,rfl,rfl⟩
   ·rw [bad (by rw [hlet,decide_eq_false_iff_not]; omega)]
    simp -dsimp (disch:=first | assumption | omega | (simp only [Aa];try omega)) only [↓AB,Aj,AA,Az,eq_self,Nat.reduceEqDiff,↓reduceIte,reduceCtorEq,↓CZ,↓DN,↓DU,↓DL,↓JF,A8,hg]
  ·have hi2:i=s.length:=by omega
   subst hi2
   rw [List.take_length] at hno
   have e:Wx s=true:=by unfold Wx; simp [hl]; exact ⟨by omega,by simpa using hno⟩
   rw [e]
   simp -dsimp (disch:=first | assumption | omega | (simp only [Aa];try omega)) only [↓AB,Aj,AA,Az,eq_self,Nat.reduceEqDiff,↓reduceIte,reduceCtorEq,↓CZ,↓As1,↓JF,A8]
end
section
open Go.RowKit
variable [Cc]
theorem BlX {b:UInt8}:(∀ y:TV,y∈[TV.val (Value.int IntKind.u8 (b.toNat:Int))]→ACl y)=True:=by
 refine eq_true ?_
 intro y hy
 obtain rfl:=List.mem_singleton.1 hy
 exact AlU b
theorem ACs {a b:TV}:(List.replicate 1 a).set 0 b=[b]:=by simp
theorem ADj (n:Nat):(Lib.decDigits n).length≤n+1:=by
 induction n using Nat.strongRecOn with
 | _ n ih =>
  by_cases h:n<10
  ·rw [Lib.decDigits_one h]; simp
  ·rw [Lib.decDigits.eq_1 n,dif_neg h,List.length_append]
   have:=ih (n / 10) (by omega)
   simp only [List.length_cons,List.length_nil]; omega
theorem AzM (n:Nat) (hn:n≤1099511627776):CE Tryz.prog 69 [i64 (n:Int)] (fun r=>r=ts (Lib.decDigits n)):=by
 refine BD.toPureV (Avm (by simp) ?_)
 by_cases h0:n=0
 ·subst h0
  simp -dsimp (disch:=first | assumption | omega) only [↓AB,Aj,AA,Az,eq_self,↓reduceIte,reduceCtorEq,↓Uf]
  rw [Lib.decDigits_one (by omega)]
  rfl
 simp -dsimp (disch:=first | assumption | omega) only [↓AB,Aj,AA,Az,eq_self,↓reduceIte,reduceCtorEq,↓Uf]
 have dl:=ADj n
 refine FU (fun q e H=>∃ (m:Nat) (s:List UInt8),q=m∧m≤n∧((m=0∧s=Lib.decDigits n)∨(0<m∧Lib.decDigits n=Lib.decDigits m++s))∧e=[(0,i64 (m:Int)),(3,ts s)]∧H=[]) n ?_ ?_
 ·exact ⟨n,[],rfl,Nat.le_refl _,.inr ⟨by omega,by simp⟩,rfl,rfl⟩
 ·rintro q e H ⟨m,s,rfl,hmn,hm,rfl,rfl⟩
  have hsl:s.length≤n+1:=by
   rcases hm with ⟨_,rfl⟩ | ⟨_,h⟩
   ·exact dl
   ·rw [h,List.length_append] at dl; omega
  by_cases hpos:0<q
  ·have h48:(48+q % 10)<256:=by omega
   have hsl2:([UInt8.ofNat (48+q % 10)]:List UInt8).length+s.length≤9223372036854775807:=by simp only [List.length_cons,List.length_nil]; omega
   simp -dsimp (disch:=first | assumption | omega) only [↓AB,Aj,AA,Az,eq_self,Nat.reduceEqDiff,↓reduceIte,reduceCtorEq,Nat.reduceLeDiff,↓Uf,ACs,Aam,BlX,ADp]
   refine BkL (q / 10) 0 (by omega) (by omega) rfl rfl ⟨q / 10,[UInt8.ofNat (48+q % 10)]++s,rfl,by omega,?_,rfl,rfl⟩
   have hd:Lib.decDigits n=Lib.decDigits q++s:=by
    rcases hm with ⟨h,_⟩ | ⟨_,h⟩
    ·omega
    ·exact h
   by_cases h10:q<10
   ·refine .inl ⟨by omega,?_⟩
    rw [hd,Lib.decDigits_one h10,Nat.mod_eq_of_lt h10]
   ·refine .inr ⟨by omega,?_⟩
    rw [hd,Lib.decDigits,dif_neg h10,List.append_assoc]
  ·simp -dsimp (disch:=first | assumption | omega) only [↓AB,Aj,AA,Az,eq_self,Nat.reduceEqDiff,↓reduceIte,reduceCtorEq,↓Uf]
   rcases hm with ⟨_,rfl⟩ | ⟨h,_⟩
   ·rfl
   ·omega
theorem By4 {a b c d z:TV}:List.take 4 (((((List.replicate 4 z).set 0 a).set 1 b).set 2 c).set 3 d)=[a,b,c,d]:=rfl
theorem BjP (zn:Nat):[TV.val (Value.int IntKind.u8 ((UInt8.ofNat (48+zn / 60 / 10)).toNat:Int)),TV.val (Value.int IntKind.u8 ((UInt8.ofNat (48+zn / 60 % 10)).toNat:Int)),TV.val (Value.int IntKind.u8 ((UInt8.ofNat (48+zn % 60 / 10)).toNat:Int)),TV.val (Value.int IntKind.u8 ((UInt8.ofNat (48+zn % 60 % 10)).toNat:Int))]=(AmS zn).map by8:=rfl
theorem AC5 {l:List UInt8}:(∀ y:TV,y∈l.map by8→ACl y)=True:=by
 refine eq_true ?_
 intro y hy
 obtain ⟨b,_,rfl⟩:=List.mem_map.1 hy
 exact AlU b
theorem AuL {l:List UInt8}:(l.map by8).map ApP=l:=by
 rw [List.map_map]
 conv=>rhs; rw [←List.map_id l]
 exact List.map_congr_left fun b _=>ADp b
variable [AX]
theorem Bjv (p:Per) (hp:Qq p):CE Tryz.prog 33 [OL p] (Blo p):=by
 refine BD.toPureV (Aof (by simp) ?_)
 obtain ⟨n,m,t,z⟩:=p
 obtain ⟨⟨ht1,ht2⟩,hz1,hz2⟩:=hp
 unfold Blo EW
 simp only at *
 have hpn:=Bk8 n
 have hpm:=Bk8 m
 by_cases h1:MV n
 case neg =>
  simp -dsimp (disch:=first | assumption | omega | (simp only [Aa];try omega)) only [↓AB,Aj,AA,Az,eq_self,Nat.reduceEqDiff,↓reduceIte,↓EH,↓DK]
  refine hpn.calls rfl fun x hx => ?_
  subst hx
  simp -dsimp (disch:=first | assumption | omega | (simp only [Aa];try omega)) only [↓AB,Aj,AA,Az,eq_self,Nat.reduceEqDiff,↓reduceIte,Nat.reduceAdd,↓D8]
  refine hpm.calls rfl fun x hx => ?_
  subst hx
  simp -dsimp (disch:=first | assumption | omega | (simp only [Aa];try omega)) only [↓AB,Aj,AA,Az,eq_self,Nat.reduceEqDiff,↓reduceIte,decide_eq_false h1,↓C9,↓Ef]
  exact ⟨fun h=>absurd h.1 h1,fun _=>by trivial⟩
 by_cases h2:MV m
 case neg =>
  simp -dsimp (disch:=first | assumption | omega | (simp only [Aa];try omega)) only [↓AB,Aj,AA,Az,eq_self,Nat.reduceEqDiff,↓reduceIte,↓EH,↓DK]
  refine hpn.calls rfl fun x hx => ?_
  subst hx
  simp -dsimp (disch:=first | assumption | omega | (simp only [Aa];try omega)) only [↓AB,Aj,AA,Az,eq_self,Nat.reduceEqDiff,↓reduceIte,Nat.reduceAdd,↓D8]
  refine hpm.calls rfl fun x hx => ?_
  subst hx
  simp -dsimp (disch:=first | assumption | omega | (simp only [Aa];try omega)) only [↓AB,Aj,AA,Az,eq_self,Nat.reduceEqDiff,↓reduceIte,decide_eq_true h1,decide_eq_false h2,↓C9,↓Ef]
  exact ⟨fun h=>absurd h.2.1 h2,fun _=>by trivial⟩
 by_cases h3:t<0
 case pos =>
  simp -dsimp (disch:=first | assumption | omega | (simp only [Aa];try omega)) only [↓AB,Aj,AA,Az,eq_self,Nat.reduceEqDiff,↓reduceIte,↓EH,↓DK]
  refine hpn.calls rfl fun x hx => ?_
  subst hx
  simp -dsimp (disch:=first | assumption | omega | (simp only [Aa];try omega)) only [↓AB,Aj,AA,Az,eq_self,Nat.reduceEqDiff,↓reduceIte,Nat.reduceAdd,↓D8]
  refine hpm.calls rfl fun x hx => ?_
  subst hx
  simp -dsimp (disch:=first | assumption | omega | (simp only [Aa];try omega)) only [↓AB,Aj,AA,Az,eq_self,Nat.reduceEqDiff,↓reduceIte,Nat.reduceAdd,decide_eq_true h1,decide_eq_true h2,↓C9,↓Ef]
  exact ⟨fun h=>by omega,fun _=>by trivial⟩
 by_cases h4:t > 1099511627776
 case pos =>
  simp -dsimp (disch:=first | assumption | omega | (simp only [Aa];try omega)) only [↓AB,Aj,AA,Az,eq_self,Nat.reduceEqDiff,↓reduceIte,↓EH,↓DK]
  refine hpn.calls rfl fun x hx => ?_
  subst hx
  simp -dsimp (disch:=first | assumption | omega | (simp only [Aa];try omega)) only [↓AB,Aj,AA,Az,eq_self,Nat.reduceEqDiff,↓reduceIte,Nat.reduceAdd,↓D8]
  refine hpm.calls rfl fun x hx => ?_
  subst hx
  simp -dsimp (disch:=first | assumption | omega | (simp only [Aa];try omega)) only [↓AB,Aj,AA,Az,eq_self,Nat.reduceEqDiff,↓reduceIte,Nat.reduceAdd,decide_eq_true h1,decide_eq_true h2,↓C9,↓Ef]
  exact ⟨fun h=>by omega,fun _=>by trivial⟩
 by_cases h5:z < -840
 case pos =>
  simp -dsimp (disch:=first | assumption | omega | (simp only [Aa];try omega)) only [↓AB,Aj,AA,Az,eq_self,Nat.reduceEqDiff,↓reduceIte,↓EH,↓DK]
  refine hpn.calls rfl fun x hx => ?_
  subst hx
  simp -dsimp (disch:=first | assumption | omega | (simp only [Aa];try omega)) only [↓AB,Aj,AA,Az,eq_self,Nat.reduceEqDiff,↓reduceIte,Nat.reduceAdd,↓D8]
  refine hpm.calls rfl fun x hx => ?_
  subst hx
  simp -dsimp (disch:=first | assumption | omega | (simp only [Aa];try omega)) only [↓AB,Aj,AA,Az,eq_self,Nat.reduceEqDiff,↓reduceIte,Nat.reduceAdd,decide_eq_true h1,decide_eq_true h2,↓C9,↓Ef]
  exact ⟨fun h=>by omega,fun _=>by trivial⟩
 by_cases h6:z > 840
 case pos =>
  simp -dsimp (disch:=first | assumption | omega | (simp only [Aa];try omega)) only [↓AB,Aj,AA,Az,eq_self,Nat.reduceEqDiff,↓reduceIte,↓EH,↓DK]
  refine hpn.calls rfl fun x hx => ?_
  subst hx
  simp -dsimp (disch:=first | assumption | omega | (simp only [Aa];try omega)) only [↓AB,Aj,AA,Az,eq_self,Nat.reduceEqDiff,↓reduceIte,Nat.reduceAdd,↓D8]
  refine hpm.calls rfl fun x hx => ?_
  subst hx
  simp -dsimp (disch:=first | assumption | omega | (simp only [Aa];try omega)) only [↓AB,Aj,AA,Az,eq_self,Nat.reduceEqDiff,↓reduceIte,Nat.reduceAdd,decide_eq_true h1,decide_eq_true h2,↓C9,↓Ef]
  exact ⟨fun h=>by omega,fun _=>by trivial⟩
 have hneg:∀ k:Nat,k≤840→unV .neg (.int .i64 (-(k:Int)))=some (.int .i64 (k:Int)):=fun k hk=>by
  have e:Op.unary .neg (.int .i64 (-(k:Int))) = .pure (.int .i64 (IntKind.i64.wrap (0 - -(k:Int)))):=rfl
  unfold unV
  rw [e,Int.sub_neg,Int.zero_add,Gl (by omega) (by omega)]
 have ln:n.length≤60:=h1.1
 have lm:m.length≤60:=h2.1
 obtain ⟨tn,rfl⟩:∃ tn:Nat,t=(tn:Int):=⟨t.toNat,by omega⟩
 have ltn:=AC9 tn
 have hfi:=AzM tn (by omega)
 simp -dsimp (disch:=first | assumption | omega | (simp only [Aa];try omega)) only [↓AB,Aj,AA,Az,eq_self,Nat.reduceEqDiff,↓reduceIte,↓EH,↓DK]
 refine hpn.calls rfl fun x hx => ?_
 subst hx
 simp -dsimp (disch:=first | assumption | omega | (simp only [Aa];try omega)) only [↓AB,Aj,AA,Az,eq_self,Nat.reduceEqDiff,↓reduceIte,Nat.reduceAdd,↓D8]
 refine hpm.calls rfl fun x hx => ?_
 subst hx
 by_cases c:z<0
 ·obtain ⟨zn,rfl⟩:∃ zn:Nat,z = -(zn:Int):=⟨(-z).toNat,by omega⟩
  simp -dsimp (disch:=first | assumption | omega | (simp only [Aa];try omega)) only [↓AB,Aj,AA,Az,eq_self,Nat.reduceEqDiff,↓reduceIte,Nat.reduceAdd,Nat.reduceLeDiff,decide_eq_true h1,decide_eq_true h2,↓C9,↓Pz,↓Qz,↓P9,hneg zn (by omega),↓PT,↓QA,↓O8]
  have lz:=AcX zn
  simp only [By4,BjP]
  refine ⟨AC5.mpr trivial,?_⟩
  simp -dsimp (disch:=first | assumption | omega | (simp only [Aa];try omega)) only [↓AB,Aj,AA,Az,eq_self,Nat.reduceEqDiff,↓reduceIte,Nat.reduceAdd,↓PN,Aam]
  refine ⟨_,hfi.calls rfl fun r hr=>⟨hr,rfl⟩,?_⟩
  simp -dsimp (disch:=first | assumption | omega | (simp only [Aa];try omega)) only [↓AB,Aj,AA,Az,eq_self,Nat.reduceEqDiff,↓reduceIte,Aam,↓Ef]
  refine ⟨fun _ => ?_,?_⟩
  rotate_left
  ·exact fun h=>absurd ⟨h1,h2,by omega,by omega,by omega⟩ h
  rw [AlV,if_pos (by omega),Int.natAbs_neg,Int.natAbs_natCast,Int.toNat_natCast]
 ·obtain ⟨zn,rfl⟩:∃ zn:Nat,z=(zn:Int):=⟨z.toNat,by omega⟩
  simp -dsimp (disch:=first | assumption | omega | (simp only [Aa];try omega)) only [↓AB,Aj,AA,Az,eq_self,Nat.reduceEqDiff,↓reduceIte,Nat.reduceAdd,Nat.reduceLeDiff,decide_eq_true h1,decide_eq_true h2,↓C9,↓Pz,↓Qz,↓P9,↓PT,↓QA,↓O8]
  have lz:=AcX zn
  simp only [By4,BjP]
  refine ⟨AC5.mpr trivial,?_⟩
  simp -dsimp (disch:=first | assumption | omega | (simp only [Aa];try omega)) only [↓AB,Aj,AA,Az,eq_self,Nat.reduceEqDiff,↓reduceIte,Nat.reduceAdd,↓PN,Aam]
  refine ⟨_,hfi.calls rfl fun r hr=>⟨hr,rfl⟩,?_⟩
  simp -dsimp (disch:=first | assumption | omega | (simp only [Aa];try omega)) only [↓AB,Aj,AA,Az,eq_self,Nat.reduceEqDiff,↓reduceIte,Aam,↓Ef]
  refine ⟨fun _ => ?_,?_⟩
  rotate_left
  ·exact fun h=>absurd ⟨h1,h2,by omega,by omega,by omega⟩ h
  rw [AlV,if_neg (by omega),Int.natAbs_natCast,Int.toNat_natCast]
end
section
open Go.RowKit
variable [Cc] [AX] [Ba] [Bd] [GH]
def Bps (c:Bk7) (r:TV):Prop:=(Awj c→r = .tup [slB (cmB c),i64 ((0:Nat):Int)])∧(¬ Awj c→r = .tup [.val (.slice none 0 0),i64 ((22:Nat):Int)])
theorem Ayn (c:Bk7) (hf:Bpq c):Sr Tryz.prog 15 [cmT c] (Bps c):=by
 refine BD.toFreshV (AoN (by simp) ?_)
 obtain ⟨tr,ps,au,co,m⟩:=c
 obtain ⟨h20,hps,hpl,ha,hc⟩:=hf
 simp only at *
 have h20':(tr.map by8).length=20:=by rw [List.length_map]; exact h20
 have hwa:=Bjv au ha
 have hwc:=Bjv co hc
 have hmm:=AzB m
 have hhx:=ABb tr h20
 have err:¬ Awj ⟨tr,ps,au,co,m⟩→Bps ⟨tr,ps,au,co,m⟩ (.tup [.val (.slice none 0 0),i64 ((22:Nat):Int)]):=fun h=>⟨fun h'=>absurd h' h,fun _=>rfl⟩
 simp -dsimp (disch:=first | assumption | omega | (simp only [Aa];try omega)) only [↓AB,Aj,AA,Az,eq_self,Nat.reduceEqDiff,↓reduceIte,Nat.reduceAdd,↓AmZ,↓Af2]
 refine hwa.calls rfl fun r hr => ?_
 obtain ⟨ta,oa,rfl,hoa,hoa'⟩:=ADb hr
 simp -dsimp (disch:=first | assumption | omega | (simp only [Aa];try omega)) only [↓AB,Aj,AA,Az,eq_self,Nat.reduceEqDiff,↓reduceIte,Nat.reduceAdd,↓AcR]
 refine hwc.calls rfl fun r hr => ?_
 obtain ⟨tc,oc,rfl,hoc,hoc'⟩:=ADb hr
 simp -dsimp (disch:=first | assumption | omega | (simp only [Aa];try omega)) only [↓AB,Aj,AA,Az,eq_self,Nat.reduceEqDiff,↓reduceIte,Nat.reduceAdd,↓Ad6]
 refine hmm.calls rfl fun r hr => ?_
 subst hr
 by_cases h8:ps.length≤8
 case neg =>
  simp -dsimp (disch:=first | assumption | omega | (simp only [Aa];try omega)) only [↓AB,Aj,AA,Az,eq_self,Nat.reduceEqDiff,↓reduceIte,Nat.reduceAdd,↓EY,↓F9]
  exact err fun h=>h8 h.2.2.1
 cases oa
 case false =>
  simp -dsimp (disch:=first | assumption | omega | (simp only [Aa];try omega)) only [↓AB,Aj,AA,Az,eq_self,Nat.reduceEqDiff,↓reduceIte,Nat.reduceAdd,↓EY,↓F9]
  exact err fun h=>hoa' rfl h.2.2.2.2.1
 cases oc
 case false =>
  simp -dsimp (disch:=first | assumption | omega | (simp only [Aa];try omega)) only [↓AB,Aj,AA,Az,eq_self,Nat.reduceEqDiff,↓reduceIte,Nat.reduceAdd,↓EY,↓F9]
  exact err fun h=>hoc' rfl h.2.2.2.2.2.1
 cases hm:Wq m
 case false =>
  simp -dsimp (disch:=first | assumption | omega | (simp only [Aa];try omega)) only [↓AB,Aj,AA,Az,eq_self,Nat.reduceEqDiff,↓reduceIte,Nat.reduceAdd,↓EY,↓F9]
  exact err fun h=>absurd (hm▸h.2.2.2.2.2.2) (by decide)
 have hm2:m.length≤2000:=by unfold Wq at hm; simp at hm; exact hm.1
 obtain ⟨hpa,rfl⟩:=hoa rfl
 obtain ⟨hpc,rfl⟩:=hoc rfl
 have hla:=Azk hpa
 have hlc:=Azk hpc
 simp -dsimp (disch:=first | assumption | omega | (simp only [Aa];try omega)) only [↓AB,Aj,AA,Az,eq_self,Nat.reduceEqDiff,↓reduceIte,Nat.reduceAdd,↓EY,↓AeM]
 refine hhx.calls rfl fun r hr => ?_
 subst hr
 have hhl:(FW tr).length=40:=by rw [Uj]; omega
 simp -dsimp (disch:=first | assumption | omega | (simp only [Aa];try omega)) only [↓AB,Aj,AA,Az,eq_self,Nat.reduceEqDiff,↓reduceIte,Aam,↓Ae6,↓Aht]
 have h0:=Bu9 (tr:=tr)
 simp only [List.cons_append,List.nil_append] at h0 ⊢
 rw [h0]
 refine FU (fun q e H=>∃ (i:Nat),q=ps.length - i∧i≤ps.length∧(ps.take i).Nodup∧H=[.obj 0 (cmT ⟨tr,ps,au,co,m⟩)] ∧
  e=[(1,.op 0 0 []),(4,ts (I8 au)),(6,ts (I8 co)),(9,ts (BlM tr (ps.take i))),(10,i64 (i:Int))]) ps.length ?_ ?_
 ·exact ⟨0,rfl,by omega,by simp,rfl,rfl⟩
 ·rintro q e H ⟨i,rfl,hi,hnd,rfl,rfl⟩
  by_cases hil:i<ps.length
  ·have hg:ps[i]?=some ps[i]:=List.getElem?_eq_getElem hil
   have hx20:=hps _ (List.mem_of_getElem? hg)
   have hnx:=Axm hil hnd
   have hts:=List.take_succ_eq_append_getElem hil
   have hpre:ps.Nodup→(ps.take (i+1)).Nodup:=fun h=>h.sublist (List.take_sublist _ _)
   have hcs:=Bjy (tr:=tr) (p:=ps[i]) (ps:=ps.take i)
   rw [←hts] at hcs
   have hcl:=ADq (tr:=tr) (ps:=ps.take i) h20 (fun x hx=>hps x (List.mem_of_mem_take hx))
   have hcl2:(ps.take i).length≤8:=by simp; omega
   have hhp:=ABb ps[i] hx20
   have hun:∀ l:List UInt8,(l.map by8).map ApP=l:=fun l=>AuL
   have hhpl:(FW ps[i]).length=40:=by rw [Uj]; omega
   generalize hpi:ps[i]=p at *
   simp -dsimp (disch:=first | assumption | omega | (simp only [Aa];try omega)) only [↓AB,Aj,AA,Az,eq_self,Nat.reduceEqDiff,↓reduceIte,Nat.reduceAdd,↓Qx,↓AgG,↓AgS]
   refine FU (fun q e H=>∃ (k:Nat),q=i - k∧k≤i∧p∉ps.take k∧H=[.obj 0 (cmT ⟨tr,ps,au,co,m⟩)] ∧
    e=[(1,.op 0 0 []),(4,ts (I8 au)),(6,ts (I8 co)),(9,ts (BlM tr (ps.take i))),(10,i64 (i:Int)),(11,i64 (k:Int))]) i ?_ ?_
   ·exact ⟨0,rfl,by omega,by simp,rfl,rfl⟩
   ·rintro q e H ⟨k,rfl,hk,hnk,rfl,rfl⟩
    by_cases hki:k<i
    ·have hkl:k<ps.length:=by omega
     have hgk:ps[k]?=some ps[k]:=List.getElem?_eq_getElem hkl
     have hk20:=hps _ (List.mem_of_getElem? hgk)
     have hks:=List.take_succ_eq_append_getElem hkl
     have hkm:ps[k]∈ps.take i:=by rw [List.mem_take_iff_getElem]; exact ⟨k,by omega,rfl⟩
     generalize ps[k]=y at *
     by_cases hyp:y=p
     ·simp -dsimp (disch:=first | assumption | omega | (simp only [Aa];try omega)) only [↓AB,Aj,AA,Az,eq_self,Nat.reduceEqDiff,↓reduceIte,Nat.reduceAdd,hg,hgk,hyp,beq_self_eq_true,↓Lj,↓PU,↓F9]
      refine err fun h=>(hnx.1 (hpre h.2.2.2.1)) ?_
      rw [←hyp]; exact hkm
     ·have hbq:(y == p)=false:=by simpa using hyp
      simp -dsimp (disch:=first | assumption | omega | (simp only [Aa];try omega)) only [↓AB,Aj,AA,Az,eq_self,Nat.reduceEqDiff,↓reduceIte,Nat.reduceAdd,hg,hgk,hbq,↓Lj,↓PU]
      refine BQ (i - (k+1)) (by omega) (by simp) ⟨k+1,rfl,by omega,?_,rfl,rfl⟩
      rw [hks]
      simp only [List.mem_append,List.mem_singleton,not_or]
      exact ⟨hnk,fun e=>hyp e.symm⟩
    ·have hki2:k=i:=by omega
     subst hki2
     simp -dsimp (disch:=first | assumption | omega | (simp only [Aa];try omega)) only [↓AB,Aj,AA,Az,eq_self,Nat.reduceEqDiff,↓reduceIte,Nat.reduceAdd,hg,Aam,↓Lj,↓Agk]
     refine hhp.calls rfl fun r hr => ?_
     subst hr
     simp -dsimp (disch:=first | assumption | omega | (simp only [Aa];try omega)) only [↓AB,Aj,AA,Az,eq_self,Nat.reduceEqDiff,↓reduceIte,Aam,↓Ahv]
     rw [hcs]
     exact BQ (ps.length - (k+1)) (by omega) (by simp) ⟨k+1,rfl,by omega,hnx.2 hnk,rfl,rfl⟩
  ·have hi2:i=ps.length:=by omega
   rw [hi2,List.take_length] at hnd
   have hcl:=ADq (tr:=tr) (ps:=ps) h20 hps
   have hce:=BnP (tr:=tr) (ps:=ps) (a:=I8 au) (d:=I8 co) (m:=m)
   have htt:ps.take i=ps:=List.take_of_length_le (by omega)
   rw [htt]
   have hcl3:(BuO (FW tr) (ps.map FW) (I8 au) (I8 co) m).length≤1000000:=by
    rw [←hce]
    simp only [List.length_append,List.length_cons,List.length_nil]
    omega
   have htk:∀ x:List UInt8,(x.map by8).take x.length=x.map by8:=fun x=>List.take_of_length_le (by simp)
   simp -dsimp (disch:=first | assumption | omega | (simp only [Aa];try omega)) only [↓AB,Aj,AA,Az,eq_self,Nat.reduceEqDiff,↓reduceIte,Nat.reduceAdd,Aam,hce,↓Qx,↓Ag2]
   simp -dsimp (disch:=first | assumption | omega | (simp only [Aa];try omega)) only [↓AB,Aj,AA,Az,eq_self,Nat.reduceEqDiff,↓reduceIte,A8,htk,↓F9]
   exact ⟨fun _=>rfl,fun h=>absurd ⟨h20,hps,h8,hnd,hpa,hpc,hm⟩ h⟩
end
section
open Go.RowKit
variable [Cc]
theorem Bi8 {w s:List UInt8} (h:¬ (w++[32]) <+: s):Aqe w s=none:=by
 cases hn:Aqe w s with
 | none=>rfl
 | some x =>
  exfalso
  obtain ⟨e,_⟩:=ABc (v:=x.1) (r:=x.2) hn
  exact h ⟨x.1++10::x.2,by rw [e]; simp⟩
theorem Bn8 {w t:List UInt8} (hw:10∉w):Aqe w (w++32::t)=(match QO 10 t with | some j=>some (t.take j,t.drop (j+1)) | none=>none):=by
 cases hc:QO 10 t with
 | some j =>
  obtain ⟨h1,h2,h3⟩:=Nj hc
  have e:t=t.take j++10::t.drop (j+1):=by
   conv=>lhs; rw [←List.take_append_drop j t,List.drop_eq_getElem_cons h1]
   rw [List.getElem?_eq_getElem h1] at h2
   rw [Option.some.inj h2]
  conv=>lhs; rw [e]
  rw [BjY hw h3]
 | none =>
  have h10:=Axx hc
  cases hn:Aqe w (w++32::t) with
  | none=>rfl
  | some x =>
   exfalso
   obtain ⟨e,_⟩:=ABc (v:=x.1) (r:=x.2) hn
   have e2:(32::t)=32::(x.1++10::x.2):=List.append_cancel_left e
   have e3:=List.tail_eq_of_cons_eq e2
   exact h10 (by rw [e3]; simp)
theorem Ate (s w:List UInt8) (hs:s.length≤1000000) (hwl:w.length≤100) (hw:10∉w):CE Tryz.prog 76 [ts s,ts w] (fun x=>x = .tup [ts (mv w s),ts (mr w s),tb (!mb w s)]):=by
 refine BD.toPureV (AAC (by simp) ?_)
 unfold mv mr mb
 by_cases hl:s.length<w.length+1
 ·rw [Bi8 (fun h=>by have:=h.length_le; simp at this; omega)]
  simp -dsimp (disch:=first | assumption | omega | (simp only [Aa];try omega)) only [↓AB,Aj,AA,Az,eq_self,Nat.reduceEqDiff,↓reduceIte,Nat.reduceAdd,reduceCtorEq,↓Ahq,↓Wu,↓Wl,↓X0,A8]
  rfl
 by_cases hp:(w++[32]) <+: s
 case neg =>
  rw [Bi8 hp]
  have hne:¬ s.take (w.length+1)=w++[32]:=fun e=>hp ⟨s.drop (w.length+1),by rw [←e,List.take_append_drop]⟩
  simp -dsimp (disch:=first | assumption | omega | (simp only [Aa];try omega)) only [↓AB,Aj,AA,Az,eq_self,Nat.reduceEqDiff,↓reduceIte,Nat.reduceAdd,reduceCtorEq,↓Ahq,↓Wu,↓Wl,↓X0,A8,Aam,hne]
  rfl
 obtain ⟨t,rfl⟩:=hp
 have hnp:=Bn8 (w:=w) (t:=t) hw
 have e0:w++32::t=w++[32]++t:=by simp
 rw [e0] at hnp
 rw [hnp]
 have hLl:(w++[32]).length=w.length+1:=by simp
 have htk:(w++[32]++t).take (w.length+1)=w++[32]:=List.take_left' hLl
 have hgt:∀ i,(w++[32]++t)[w.length+1+i]?=t[i]?:=fun i=>by rw [List.getElem?_append_right (by omega),hLl,Nat.add_sub_cancel_left]
 have hdr:∀ i,(w++[32]++t).drop (w.length+1+i)=t.drop i:=fun i=>by rw [←List.drop_drop,List.drop_left' hLl]
 have hlen:(w++[32]++t).length=w.length+1+t.length:=by rw [List.length_append,hLl]
 have hsub:∀ i,((w++[32]++t).take (w.length+1+i)).drop (w.length+1)=t.take i:=fun i=>by rw [List.take_append,hLl,List.take_of_length_le (by omega),List.drop_left' hLl,Nat.add_sub_cancel_left]
 have hsub2:∀ i,((w++[32]++t).drop (w.length+1)).take i=t.take i:=fun i=>by rw [List.drop_left' hLl]
 clear hnp e0
 generalize w++[32]++t=s at *
 simp -dsimp (disch:=first | assumption | omega | (simp only [Aa];try omega)) only [↓AB,Aj,AA,Az,eq_self,Nat.reduceEqDiff,↓reduceIte,Nat.reduceAdd,reduceCtorEq,↓Ahq,↓Wu,↓Wl,↓Auy,↓Aug,A8,Aam,htk]
 refine FU (fun q e H=>∃ i:Nat,q=t.length - i∧i≤t.length∧10∉t.take i∧e=[(0,ts s),(7,i64 ((w.length+1:Nat):Int)),(8,i64 ((w.length+1+i:Nat):Int))]∧H=[]) t.length ?_ ?_
 ·exact ⟨0,rfl,by omega,by simp,rfl,rfl⟩
 ·rintro q e H ⟨i,rfl,hi,hno,rfl,rfl⟩
  by_cases h:i<t.length
  ·have hg:t[i]?=some t[i]:=List.getElem?_eq_getElem h
   have hsucc:=List.take_succ_eq_append_getElem h
   have hg2:s[w.length+1+i]?=some t[i]:=by rw [hgt,hg]
   generalize t[i]=c at *
   by_cases hc:c.toNat=10
   ·have hc10:c=10:=UInt8.toNat_inj.1 hc
    have hcut:QO 10 t=some i:=by
     have e:t=t.take i++10::t.drop (i+1):=by
      conv=>lhs; rw [←List.take_append_drop i t,List.drop_eq_getElem_cons h]
      rw [List.getElem?_eq_getElem h] at hg
      rw [Option.some.inj hg,hc10]
     have:=Akd (c:=10) (l:=t.take i) (m:=t.drop (i+1)) hno
     rw [←e,List.length_take,Nat.min_eq_left hi] at this
     exact this
    rw [hcut]
    have hd1:=hdr (i+1)
    have hs1:=hsub2 i
    have hsb:w.length+1+i - (w.length+1)=i:=by omega
    have had:w.length+1+i+1=w.length+1+(i+1):=by omega
    simp only
    simp -dsimp (disch:=first | assumption | omega | (simp only [Aa];try omega)) only [↓AB,Aj,AA,Az,eq_self,Nat.reduceEqDiff,↓reduceIte,reduceCtorEq,↓WA,↓AhQ,↓X0,A8,hg2,hlen]
    rw [hs1,had,hd1,show List.take (w.length+1+t.length - (w.length+1+(i+1))) (t.drop (i+1))=t.drop (i+1) from List.take_of_length_le (by rw [List.length_drop]; omega)]
    rfl
   ·simp -dsimp (disch:=first | assumption | omega | (simp only [Aa];try omega)) only [↓AB,Aj,AA,Az,eq_self,Nat.reduceEqDiff,↓reduceIte,reduceCtorEq,↓WA,A8,hg2,hlen]
    exact BQ (t.length - (i+1)) (by omega) (by simp) ⟨i+1,rfl,by omega,(by rw [hsucc]; intro hm; rcases List.mem_append.1 hm with h1 | h1; exact hno h1; simp at h1; exact hc (by rw [←h1]; rfl)),rfl,rfl⟩
  ·have hi2:i=t.length:=by omega
   subst hi2
   rw [List.take_length] at hno
   have hcut:QO 10 t=none:=by
    cases hc:QO 10 t with
    | none=>rfl
    | some j=>exact absurd (List.mem_of_getElem? (Nj hc).2.1) hno
   rw [hcut]
   simp -dsimp (disch:=first | assumption | omega | (simp only [Aa];try omega)) only [↓AB,Aj,AA,Az,eq_self,Nat.reduceEqDiff,↓reduceIte,reduceCtorEq,↓WA,↓AhQ,↓X0,A8,hlen]
   rfl
end
section
open Go.RowKit
variable [Cc] [AX] [Ba] [Bd] [GH] [BI]
theorem BqG (k:Int):CE Tryz.prog 35 [i64 k] (fun r=>r=ts ((EK k).getD [])):=by
 refine BD.toPureV (AAy (by simp) ?_)
 by_cases c1:k=1
 ·subst c1
  simp -dsimp (disch:=first | assumption | omega | (simp only [Aa];try omega)) only [↓AB,Aj,AA,Az,eq_self,Nat.reduceEqDiff,↓reduceIte,reduceCtorEq,↓ZL]
  rfl
 by_cases c2:k=2
 ·subst c2
  simp -dsimp (disch:=first | assumption | omega | (simp only [Aa];try omega)) only [↓AB,Aj,AA,Az,eq_self,Nat.reduceEqDiff,↓reduceIte,reduceCtorEq,↓ZL]
  rfl
 by_cases c3:k=3
 ·subst c3
  simp -dsimp (disch:=first | assumption | omega | (simp only [Aa];try omega)) only [↓AB,Aj,AA,Az,eq_self,Nat.reduceEqDiff,↓reduceIte,reduceCtorEq,↓ZL]
  rfl
 by_cases c4:k=4
 ·subst c4
  simp -dsimp (disch:=first | assumption | omega | (simp only [Aa];try omega)) only [↓AB,Aj,AA,Az,eq_self,Nat.reduceEqDiff,↓reduceIte,reduceCtorEq,↓ZL]
  rfl
 have hn:EK k=none:=by unfold EK; rw [if_neg c1,if_neg c2,if_neg c3,if_neg c4]
 simp -dsimp (disch:=first | assumption | omega | (simp only [Aa];try omega)) only [↓AB,Aj,AA,Az,eq_self,Nat.reduceEqDiff,↓reduceIte,reduceCtorEq,↓ZL]
 rw [hn]; rfl
def BvF (t:Bl7) (r:TV):Prop:=(ACZ t→r = .tup [slB (tgB t),i64 ((0:Nat):Int)])∧(¬ ACZ t→r = .tup [.val (.slice none 0 0),i64 ((23:Nat):Int)])
theorem Bnh {x k n p m:List UInt8}:([111,98,106,101,99,116,32]:List UInt8)++x++[10,116,121,112,101,32]++k++[10,116,97,103,32]++n++[10,116,97,103,103,101,114,32]++p++[10,10]++m=AAM x k n p m:=by
 simp [AAM,MB,AbW,AyJ,LD]
theorem Bjf {x k n p m:List UInt8}:(111::98::106::101::99::116::32::(x++[10,116,121,112,101,32]++k++[10,116,97,103,32]++n++[10,116,97,103,103,101,114,32]++p++[10,10]++m))=AAM x k n p m:=by
 simp [AAM,MB,AbW,AyJ,LD]
theorem AEf (t:Bl7) (hf:Bpj t):Sr Tryz.prog 10 [tgT t] (BvF t):=by
 refine BD.toFreshV (Aur (by simp) ?_)
 obtain ⟨id,k,n,p,m⟩:=t
 obtain ⟨h20,⟨hk1,hk2⟩,hp,hnl⟩:=hf
 have hkn:=BqG k
 have hwp:=Bjv p hp
 have htn:=BqE n
 have hmm:=AzB m
 have hhx:=ABb id h20
 unfold BvF ACZ tgB
 simp only at *
 have hnil:(EK k=none)↔(EK k).getD []=[]:=by
  cases hkk:EK k with
  | none=>simp
  | some kn =>
   rw [EX] at hkk
   rcases hkk with ⟨_,rfl⟩ | ⟨_,rfl⟩ | ⟨_,rfl⟩ | ⟨_,rfl⟩<;>simp
 simp -dsimp (disch:=first | assumption | omega | (simp only [Aa];try omega)) only [↓AB,Aj,AA,Az,eq_self,Nat.reduceEqDiff,↓reduceIte,Nat.reduceAdd,↓As2,↓Amn]
 refine htn.calls rfl fun r hr => ?_
 subst hr
 simp -dsimp (disch:=first | assumption | omega | (simp only [Aa];try omega)) only [↓AB,Aj,AA,Az,eq_self,Nat.reduceEqDiff,↓reduceIte,Nat.reduceAdd,↓Amr]
 refine hwp.calls rfl fun r hr => ?_
 obtain ⟨tx,ok,rfl,hx⟩:∃ tx ok,r = .tup [ts tx,tb ok]∧((ok=true∧EW p∧tx=I8 p)∨(ok=false∧¬ EW p)):=by
  by_cases h:EW p
  ·exact ⟨_,_,hr.1 h,.inl ⟨rfl,h,rfl⟩⟩
  ·exact ⟨_,_,hr.2 h,.inr ⟨rfl,h⟩⟩
 simp -dsimp (disch:=first | assumption | omega | (simp only [Aa];try omega)) only [↓AB,Aj,AA,Az,eq_self,Nat.reduceEqDiff,↓reduceIte,Nat.reduceAdd,↓Amf]
 refine hmm.calls rfl fun r hr => ?_
 subst hr
 simp -dsimp (disch:=first | assumption | omega | (simp only [Aa];try omega)) only [↓AB,Aj,AA,Az,eq_self,Nat.reduceEqDiff,↓reduceIte,Nat.reduceAdd,↓Aml]
 refine hkn.calls rfl fun r hr => ?_
 subst hr
 by_cases hkk:(EK k).getD []=[]
 ·simp -dsimp (disch:=first | assumption | omega | (simp only [Aa];try omega)) only [↓AB,Aj,AA,Az,eq_self,Nat.reduceEqDiff,↓reduceIte,hkk,↓Lc]
  exact ⟨fun h=>absurd (hnil.2 hkk) h.2.1,fun _=>by trivial⟩
 cases hg:Wx n with
 | false =>
  simp -dsimp (disch:=first | assumption | omega | (simp only [Aa];try omega)) only [↓AB,Aj,AA,Az,eq_self,Nat.reduceEqDiff,↓reduceIte,hkk,↓Lc]
  exact ⟨fun h=>(by cases h.2.2.2.1),fun _=>by trivial⟩
 | true =>
  rcases hx with ⟨rfl,hok,rfl⟩ | ⟨rfl,hok⟩
  case inr =>
   simp -dsimp (disch:=first | assumption | omega | (simp only [Aa];try omega)) only [↓AB,Aj,AA,Az,eq_self,Nat.reduceEqDiff,↓reduceIte,hkk,↓Lc]
   exact ⟨fun h=>absurd h.2.2.1 hok,fun _=>by trivial⟩
  cases hm:Wq m with
  | false =>
   simp -dsimp (disch:=first | assumption | omega | (simp only [Aa];try omega)) only [↓AB,Aj,AA,Az,eq_self,Nat.reduceEqDiff,↓reduceIte,hkk,↓Lc]
   exact ⟨fun h=>h.2.2.2.elim,fun _=>by trivial⟩
  | true =>
   have hpl:=BoM hok
   have hn60:=(Axh.1 hg).2.1
   have hm2:m.length≤2000:=by unfold Wq at hm; simp at hm; exact hm.1
   have hhl:(FW id).length=40:=by rw [Uj]; omega
   have hkl:((EK k).getD []).length≤6:=by
    cases h:EK k with
    | none=>simp
    | some kn=>exact (Yo h).2.2
   have htl:=Bnh (x:=FW id) (k:=(EK k).getD []) (n:=n) (p:=I8 p) (m:=m)
   simp -dsimp (disch:=first | assumption | omega | (simp only [Aa];try omega)) only [↓AB,Aj,AA,Az,eq_self,Nat.reduceEqDiff,↓reduceIte,hkk,↓AmQ]
   refine ⟨_,hhx.calls rfl fun r hr=>⟨hr,rfl⟩,?_⟩
   simp -dsimp (disch:=first | assumption | omega | (simp only [Aa];try omega)) only [↓AB,Aj,AA,Az,eq_self,Nat.reduceEqDiff,↓reduceIte,Nat.reduceAdd,Aam]
   refine ⟨_,hkn.calls rfl fun r hr=>⟨hr,rfl⟩,?_⟩
   have hrs:(AAM (FW id) ((EK k).getD []) n (I8 p) m).length≤1000000:=by
    rw [←htl]
    simp only [List.length_append,List.length_cons,List.length_nil]
    omega
   have htk:∀ x:List UInt8,(x.map by8).take x.length=x.map by8:=fun x=>List.take_of_length_le (by simp)
   simp -dsimp (disch:=first | assumption | omega | (simp only [Aa];try omega)) only [↓AB,Aj,AA,Az,eq_self,Nat.reduceEqDiff,↓reduceIte,Nat.reduceAdd,Aam,Bjf,A8,htk,↓Lc]
   exact ⟨fun _=>trivial,fun h=>absurd ⟨h20,fun e=>hkk (hnil.1 e),hok⟩ h⟩
end
section
open Go.RowKit
variable [Cc]
theorem Bjc:∀ (l:List UInt8) (n k:Nat),n<10 ^ k→l.all LK=true→AeF n l<10 ^ (k+l.length)
 | [],n,k,h,_=>h
 | b::l,n,k,h,ha=>by
  rw [List.all_cons,Bool.and_eq_true] at ha
  have hb:b.toNat - 48≤9:=by
   have:=ha.1
   unfold LK at this
   simp at this
   omega
  have h10:n*10+(b.toNat - 48)<10 ^ (k+1):=by
   rw [Nat.pow_succ]
   have:n+1≤10 ^ k:=h
   have h2:(n+1)*10≤10 ^ k*10:=Nat.mul_le_mul_right 10 this
   generalize 10 ^ k*10=z at *
   omega
  have:=Bjc l (n*10+(b.toNat - 48)) (k+1) h10 ha.2
  rw [List.length_cons,show k+(l.length+1)=k+1+l.length by omega]
  exact this
theorem ACj {l:List UInt8} (h:l.length≤15) (ha:l.all LK=true):AeF 0 l<1000000000000000:=by
 have h1:=Bjc l 0 0 (by decide) ha
 have h2:10 ^ (0+l.length)≤10 ^ 15:=Nat.pow_le_pow_right (by decide) (by omega)
 exact Nat.lt_of_lt_of_le h1 (Nat.le_trans h2 (by decide))
def Ar7 (s:List UInt8):Int:=if 1≤s.length∧s.length≤15∧(1<s.length→s[0]?≠some 48)∧s.all LK=true then (AeF 0 s:Int) else -1
theorem Ayh (s:List UInt8):CE Tryz.prog 108 [ts s] (fun x=>x=i64 (Ar7 s)):=by
 refine BD.toPureV (AwV (by simp) ?_)
 by_cases h1:1≤s.length
 case neg =>
  have e:Ar7 s = -1:=by unfold Ar7; rw [if_neg (fun h=>h1 h.1)]
  rw [e]
  simp -dsimp (disch:=first | assumption | omega | (simp only [Aa];try omega)) only [↓AB,Aj,AA,Az,eq_self,Nat.reduceEqDiff,↓reduceIte,reduceCtorEq,↓MN,↓Js,↓FY,A8]
 by_cases h15:s.length≤15
 case neg =>
  have e:Ar7 s = -1:=by unfold Ar7; rw [if_neg (fun h=>h15 h.2.1)]
  rw [e]
  simp -dsimp (disch:=first | assumption | omega | (simp only [Aa];try omega)) only [↓AB,Aj,AA,Az,eq_self,Nat.reduceEqDiff,↓reduceIte,reduceCtorEq,↓MN,↓Js,↓FY,A8]
 have hg0:s[0]?=some s[0]:=List.getElem?_eq_getElem (by omega)
 generalize s[0]=z at *
 by_cases hl:1<s.length
 ·by_cases hz:z.toNat=48
  ·have e:Ar7 s = -1:=by
    unfold Ar7
    rw [if_neg]
    rintro ⟨_,_,h3,_⟩
    exact h3 hl (by rw [hg0,show z=48 from UInt8.toNat_inj.1 hz])
   rw [e]
   simp -dsimp (disch:=first | assumption | omega | (simp only [Aa];try omega)) only [↓AB,Aj,AA,Az,eq_self,Nat.reduceEqDiff,↓reduceIte,reduceCtorEq,↓MN,↓Js,↓FY,A8,hg0]
  have hnz:1<s.length→s[0]?≠some 48:=fun _ h=>by
   rw [hg0] at h
   exact hz (by rw [Option.some.inj h]; rfl)
  simp -dsimp (disch:=first | assumption | omega | (simp only [Aa];try omega)) only [↓AB,Aj,AA,Az,eq_self,Nat.reduceEqDiff,↓reduceIte,reduceCtorEq,↓MN,↓Js,↓AaE,↓Aa5,↓Aa1,A8,hg0]
  refine FU (fun q e H=>∃ (i:Nat),q=s.length - i∧i≤s.length∧(s.take i).all LK=true∧e=[(0,ts s),(3,i64 ((AeF 0 (s.take i):Nat):Int)),(4,i64 (i:Int))]∧H=[]) s.length ?_ ?_
  ·exact ⟨0,rfl,by omega,rfl,rfl,rfl⟩
  ·rintro q e H ⟨i,rfl,hi,hall,rfl,rfl⟩
   by_cases h:i<s.length
   ·have hg:s[i]?=some s[i]:=List.getElem?_eq_getElem h
    have hsucc:=List.take_succ_eq_append_getElem h
    generalize s[i]=b at *
    have hb:=b.toNat_lt
    have hnum:AeF 0 (s.take (i+1))=AeF 0 (s.take i)*10+(b.toNat - 48):=by rw [hsucc,AaO]; rfl
    have hlt:=ACj (l:=s.take i) (by simp; omega) hall
    have hall2:LK b=true→(s.take (i+1)).all LK=true:=fun hd=>by rw [hsucc,List.all_append,hall]; simp [hd]
    have hbad:LK b=false→Ar7 s = -1:=fun hd=>by
     unfold Ar7
     rw [if_neg]
     rintro ⟨_,_,_,ha⟩
     have:=List.all_eq_true.1 ha b (List.mem_of_getElem? hg)
     rw [hd] at this; cases this
    generalize AeF 0 (s.take i)=n at *
    by_cases d1:b.toNat<48
    ·rw [hbad (by unfold LK; simp; omega)]
     simp -dsimp (disch:=first | assumption | omega | (simp only [Aa];try omega)) only [↓AB,Aj,AA,Az,eq_self,Nat.reduceEqDiff,↓reduceIte,reduceCtorEq,↓EJ,↓G5,↓FY,A8,hg]
    by_cases d2:b.toNat > 57
    ·rw [hbad (by unfold LK; simp; omega)]
     simp -dsimp (disch:=first | assumption | omega | (simp only [Aa];try omega)) only [↓AB,Aj,AA,Az,eq_self,Nat.reduceEqDiff,↓reduceIte,reduceCtorEq,↓EJ,↓G5,↓FY,A8,hg]
    have hwr:IntKind.i64.wrap ((b.toNat - 48:Nat):Int)=((b.toNat - 48:Nat):Int):=Gl (by omega) (by omega)
    simp -dsimp (disch:=first | assumption | omega | (simp only [Aa];try omega)) only [↓AB,Aj,AA,Az,eq_self,Nat.reduceEqDiff,↓reduceIte,reduceCtorEq,↓EJ,↓G5,A8,hg,Ux,hwr]
    exact BQ (s.length - (i+1)) (by omega) (by simp) ⟨i+1,rfl,by omega,hall2 (by unfold LK; simp; omega),by rw [hnum]; rfl,rfl⟩
   ·have hi2:i=s.length:=by omega
    subst hi2
    rw [List.take_length] at hall ⊢
    have e:Ar7 s=(AeF 0 s:Int):=by unfold Ar7; rw [if_pos ⟨h1,h15,hnz,hall⟩]
    rw [e]
    simp -dsimp (disch:=first | assumption | omega | (simp only [Aa];try omega)) only [↓AB,Aj,AA,Az,eq_self,Nat.reduceEqDiff,↓reduceIte,reduceCtorEq,↓EJ,↓Abp,↓FY,A8]
 ·have hnz:1<s.length→s[0]?≠some 48:=fun h=>absurd h hl
  simp -dsimp (disch:=first | assumption | omega | (simp only [Aa];try omega)) only [↓AB,Aj,AA,Az,eq_self,Nat.reduceEqDiff,↓reduceIte,reduceCtorEq,↓MN,↓Js,↓AaE,↓Aa5,↓Aa1,A8]
  refine FU (fun q e H=>∃ (i:Nat),q=s.length - i∧i≤s.length∧(s.take i).all LK=true∧e=[(0,ts s),(3,i64 ((AeF 0 (s.take i):Nat):Int)),(4,i64 (i:Int))]∧H=[]) s.length ?_ ?_
  ·exact ⟨0,rfl,by omega,rfl,rfl,rfl⟩
  ·rintro q e H ⟨i,rfl,hi,hall,rfl,rfl⟩
   by_cases h:i<s.length
   ·have hg:s[i]?=some s[i]:=List.getElem?_eq_getElem h
    have hsucc:=List.take_succ_eq_append_getElem h
    generalize s[i]=b at *
    have hb:=b.toNat_lt
    have hnum:AeF 0 (s.take (i+1))=AeF 0 (s.take i)*10+(b.toNat - 48):=by rw [hsucc,AaO]; rfl
    have hlt:=ACj (l:=s.take i) (by simp; omega) hall
    have hall2:LK b=true→(s.take (i+1)).all LK=true:=fun hd=>by rw [hsucc,List.all_append,hall]; simp [hd]
    have hbad:LK b=false→Ar7 s = -1:=fun hd=>by
     unfold Ar7
     rw [if_neg]
     rintro ⟨_,_,_,ha⟩
     have:=List.all_eq_true.1 ha b (List.mem_of_getElem? hg)
     rw [hd] at this; cases this
    generalize AeF 0 (s.take i)=n at *
    by_cases d1:b.toNat<48
    ·rw [hbad (by unfold LK; simp; omega)]
     simp -dsimp (disch:=first | assumption | omega | (simp only [Aa];try omega)) only [↓AB,Aj,AA,Az,eq_self,Nat.reduceEqDiff,↓reduceIte,reduceCtorEq,↓EJ,↓G5,↓FY,A8,hg]
    by_cases d2:b.toNat > 57
    ·rw [hbad (by unfold LK; simp; omega)]
     simp -dsimp (disch:=first | assumption | omega | (simp only [Aa];try omega)) only [↓AB,Aj,AA,Az,eq_self,Nat.reduceEqDiff,↓reduceIte,reduceCtorEq,↓EJ,↓G5,↓FY,A8,hg]
    have hwr:IntKind.i64.wrap ((b.toNat - 48:Nat):Int)=((b.toNat - 48:Nat):Int):=Gl (by omega) (by omega)
    simp -dsimp (disch:=first | assumption | omega | (simp only [Aa];try omega)) only [↓AB,Aj,AA,Az,eq_self,Nat.reduceEqDiff,↓reduceIte,reduceCtorEq,↓EJ,↓G5,A8,hg,Ux,hwr]
    exact BQ (s.length - (i+1)) (by omega) (by simp) ⟨i+1,rfl,by omega,hall2 (by unfold LK; simp; omega),by rw [hnum]; rfl,rfl⟩
   ·have hi2:i=s.length:=by omega
    subst hi2
    rw [List.take_length] at hall ⊢
    have e:Ar7 s=(AeF 0 s:Int):=by unfold Ar7; rw [if_pos ⟨h1,h15,hnz,hall⟩]
    rw [e]
    simp -dsimp (disch:=first | assumption | omega | (simp only [Aa];try omega)) only [↓AB,Aj,AA,Az,eq_self,Nat.reduceEqDiff,↓reduceIte,reduceCtorEq,↓EJ,↓Abp,↓FY,A8]
end
section
open Go.RowKit
variable [Cc]
theorem AtA {c:UInt8} {s:List UInt8} {i j:Nat} (hi:s[i]?=some c) (hi2:c∉s.take i) (hj:s[j]?=some c) (hj2:c∉s.take j):i=j:=by
 rcases Nat.lt_trichotomy i j with h | h | h
 ·refine absurd (List.mem_of_getElem? (i:=i) ?_) hj2
  rw [List.getElem?_take,if_pos h]; exact hi
 ·exact h
 ·refine absurd (List.mem_of_getElem? (i:=j) ?_) hi2
  rw [List.getElem?_take,if_pos h]; exact hj
theorem Bok:∀ n:Nat,1≤n→(Lib.decDigits n)[0]?≠some 48:=by
 intro n
 induction n using Nat.strongRecOn with
 | _ n ih =>
  intro hn
  by_cases h:n<10
  ·rw [Lib.decDigits_one h]
   intro e
   simp only [List.getElem?_cons_zero,Option.some.injEq] at e
   have:=congrArg UInt8.toNat e
   rw [UInt8.toNat_ofNat'] at this
   simp at this
   omega
  ·have hne:=ADo (n / 10)
   have h1:1≤(Lib.decDigits (n / 10)).length:=by
    cases hd:Lib.decDigits (n / 10) with
    | nil=>exact absurd hd hne
    | cons a l=>simp
   rw [Lib.decDigits.eq_1 n,dif_neg h,List.getElem?_append_left (by omega)]
   exact ih _ (by omega) (by omega)
theorem Axr:∀ (k n:Nat),n<10 ^ (k+1)→(Lib.decDigits n).length≤k+1
 | 0,n,h=>by rw [Lib.decDigits_one (by simpa using h)]; simp
 | k+1,n,h=>by
  by_cases c:n<10
  ·rw [Lib.decDigits_one c]; simp
  ·rw [Lib.decDigits.eq_1 n,dif_neg c,List.length_append]
   have:=Axr k (n / 10) (Nat.div_lt_of_lt_mul (by rw [Nat.mul_comm,←Nat.pow_succ]; exact h))
   simp
   exact this
theorem BiR {n:Nat} (h:n≤1099511627776):(Lib.decDigits n).length≤13:=Axr 12 n (Nat.lt_of_le_of_lt h (by decide))
theorem Bmc {n:Nat} (h:n≤1099511627776):Ar7 (Lib.decDigits n)=(n:Int):=by
 obtain ⟨h1,h2⟩:=AyF n
 have hl:=BiR h
 have hne:=ADo n
 have h0:1≤(Lib.decDigits n).length:=by
  cases hd:Lib.decDigits n with
  | nil=>exact absurd hd hne
  | cons a l=>simp
 have hz:1<(Lib.decDigits n).length→(Lib.decDigits n)[0]?≠some 48:=fun hlt=>Bok n (by
  by_cases hn:n=0
  ·subst hn
   rw [Lib.decDigits_one (by omega)] at hlt
   simp at hlt
  ·omega)
 unfold Ar7
 rw [if_pos ⟨h0,by omega,hz,h1⟩,h2]
theorem ADn {a b:Nat} (ha:a<10) (hb:b<10):Ar7 [49,UInt8.ofNat (48+a),UInt8.ofNat (48+b)]=((100+a*10+b:Nat):Int):=by
 obtain ⟨a1,a2⟩:=Akc ha
 obtain ⟨b1,b2⟩:=Akc hb
 generalize UInt8.ofNat (48+a)=x at *
 generalize UInt8.ofNat (48+b)=y at *
 have e:AeF 0 [49,x,y]=((0*10+((49:UInt8).toNat - 48))*10+(x.toNat - 48))*10+(y.toNat - 48):=rfl
 have e49:(49:UInt8).toNat=49:=rfl
 have hd:LK 49=true:=by decide
 unfold Ar7
 rw [if_pos ⟨by simp,by simp,fun _=>by simp,by simp [hd,a1,b1]⟩,e,a2,b2,e49]
 omega
structure Bx9 (p:Per) (s:List UInt8) (o sh:Nat):Prop where
 at1:s[o]?=some 60
 no1:60∉s.take o
 at2:s[sh]?=some 62
 no2:62∉(s.drop o).take (sh - o)
 le:o<sh
 one:1≤o
 len:s.length=sh+2+(Lib.decDigits p.time.toNat).length+6
 name:s.take (o - 1)=p.name
 mail:(s.drop (o+1)).take (sh - (o+1))=p.mail
 time:(s.drop (sh+2)).take (s.length - 6 - (sh+2))=Lib.decDigits p.time.toNat
 sign:s[s.length - 5]?=some (Aqw p.zone)
 hrs:(s.drop (s.length - 4)).take 2=[UInt8.ofNat (48+p.zone.natAbs / 60 / 10),UInt8.ofNat (48+p.zone.natAbs / 60 % 10)]
 mins:s.drop (s.length - 2)=[UInt8.ofNat (48+p.zone.natAbs % 60 / 10),UInt8.ofNat (48+p.zone.natAbs % 60 % 10)]
theorem BkX {a r:List UInt8} {c:UInt8} {k:Nat} (h:a.length=k):(a++c::r)[k]?=some c:=by
 subst h
 rw [List.getElem?_append_right (Nat.le_refl _),Nat.sub_self]; rfl
theorem Bm4 {p:Per} (hp:EW p):Bx9 p (I8 p) (p.name.length+1) (p.name.length+2+p.mail.length):=by
 obtain ⟨h1,h2,_⟩:=hp
 generalize hd:Lib.decDigits p.time.toNat=d
 have e1:I8 p=(p.name++[32])++(60::(p.mail++62::32::(d++32::LH p))):=by rw [←hd]; simp [I8]
 have e2:I8 p=(p.name++[32,60]++p.mail)++(62::32::(d++32::LH p)):=by rw [←hd]; simp [I8]
 have e3:I8 p=(p.name++[32,60]++p.mail++[62,32])++(d++32::LH p):=by rw [←hd]; simp [I8]
 have e4:I8 p=(p.name++[32,60]++p.mail++[62,32]++d++[32])++(Aqw p.zone::AmS p.zone.natAbs):=by rw [←hd]; simp [I8,LH]
 have e5:I8 p=(p.name++[32,60]++p.mail++[62,32]++d++[32,Aqw p.zone])++([UInt8.ofNat (48+p.zone.natAbs / 60 / 10),UInt8.ofNat (48+p.zone.natAbs / 60 % 10)]++[UInt8.ofNat (48+p.zone.natAbs % 60 / 10),UInt8.ofNat (48+p.zone.natAbs % 60 % 10)]):=by rw [←hd]; simp [I8,LH,AmS]
 have e6:I8 p=(p.name++[32,60]++p.mail++[62,32]++d++[32,Aqw p.zone]++[UInt8.ofNat (48+p.zone.natAbs / 60 / 10),UInt8.ofNat (48+p.zone.natAbs / 60 % 10)])++[UInt8.ofNat (48+p.zone.natAbs % 60 / 10),UInt8.ofNat (48+p.zone.natAbs % 60 % 10)]:=by rw [←hd]; simp [I8,LH,AmS]
 have e7:I8 p=p.name++([32,60]++(p.mail++(62::32::(d++32::LH p)))):=by rw [←hd]; simp [I8]
 have e8:I8 p=(p.name++[32,60])++(p.mail++(62::32::(d++32::LH p))):=by rw [←hd]; simp [I8]
 have hlen:(I8 p).length=p.name.length+2+p.mail.length+2+d.length+6:=by
  rw [e5]
  simp only [List.length_append,List.length_cons,List.length_nil]
 refine ⟨?_,?_,?_,?_,by omega,by omega,by rw [hd]; exact hlen,?_,?_,?_,?_,?_,?_⟩
 ·rw [e1]; exact BkX (by simp)
 ·rw [e1,List.take_left' (by simp)]
  intro hm
  rcases List.mem_append.1 hm with hm | hm
  ·exact (h1.2.1 _ hm).1 rfl
  ·simp at hm
 ·rw [e2]; exact BkX (by simp; omega)
 ·rw [e1,List.drop_left' (by simp),show p.name.length+2+p.mail.length - (p.name.length+1)=p.mail.length+1 by omega,List.take_succ_cons,List.take_left' rfl]
  intro hm
  rcases List.mem_cons.1 hm with hm | hm
  ·cases hm
  ·exact (h2.2.1 _ hm).2.1 rfl
 ·rw [Nat.add_sub_cancel,e7,List.take_left' rfl]
 ·rw [e8,List.drop_left' (by simp),show p.name.length+2+p.mail.length - (p.name.length+1+1)=p.mail.length by omega,List.take_left' rfl]
 ·rw [hlen,e3,List.drop_left' (by simp; omega),List.take_left' (by omega),hd]
 ·rw [hlen,e4]; exact BkX (by simp; omega)
 ·rw [hlen,e5,List.drop_left' (by simp; omega)]; rfl
 ·rw [hlen,e6,List.drop_left' (by simp; omega)]
end
section
open Go.RowKit
variable [Cc] [AX] [Ba] [Bd] [GH]
theorem Brv {p:Per} {s:List UInt8} {i j:Nat} (hp:EW p) (e:I8 p=s) (h1:60∉s.take i) (h2:i=s.length∨s[i]?=some 60) (hij:i≤j) (h3:62∉(s.drop i).take (j - i)) (h4:j=s.length∨s[j]?=some 62):Bx9 p s i j:=by
 subst e
 have L:=Bm4 hp
 have hi:i=p.name.length+1:=by
  rcases h2 with h2 | h2
  ·exfalso
   rw [h2,List.take_length] at h1
   exact h1 (List.mem_of_getElem? L.at1)
  ·exact AtA h2 h1 L.at1 L.no1
 have hj:j=p.name.length+2+p.mail.length:=by
  have hle:=L.le
  have a2:((I8 p).drop i)[p.name.length+2+p.mail.length - i]?=some 62:=by
   rw [List.getElem?_drop,show i+(p.name.length+2+p.mail.length - i)=p.name.length+2+p.mail.length by omega]
   exact L.at2
  have n2:=L.no2
  rw [←hi] at n2
  rcases h4 with h4 | h4
  ·exfalso
   rw [h4,List.take_of_length_le (by simp)] at h3
   exact h3 (List.mem_of_getElem? a2)
  ·have b2:((I8 p).drop i)[j - i]?=some 62:=by
    rw [List.getElem?_drop,show i+(j - i)=j by omega]
    exact h4
   have:=AtA b2 h3 a2 n2
   omega
 rw [hi,hj]
 exact L
theorem AB8 (l:List UInt8) : -1≤Ar7 l∧Ar7 l≤1000000000000000:=by
 unfold Ar7
 split
 ·rename_i h
  have:=ACj h.2.1 h.2.2.2
  omega
 ·omega
theorem Aky (s:List UInt8) (hs:s.length≤1000000):CE Tryz.prog 78 [ts s] (Ava s):=by
 refine BD.toPureV (AqD (by simp) ?_)
 simp -dsimp (disch:=first | assumption | omega | (simp only [Aa];try omega)) only [↓AB,Aj,AA,Az,eq_self,Nat.reduceEqDiff,↓reduceIte,reduceCtorEq,↓ApV,↓Ahr,↓AgA,↓Agp]
 refine FU (fun q e H=>∃ i:Nat,q=s.length - i∧i≤s.length∧60∉s.take i∧e=[(0,ts s),(2,.op 0 0 []),(4,.op 1 0 []),(5,i64 (i:Int))]∧H=[.obj 0 (OL ⟨[],[],0,0⟩),.obj 0 (OL ⟨[],[],0,0⟩)]) s.length ?_ ?_
 ·exact ⟨0,rfl,by omega,by simp,rfl,rfl⟩
 ·rintro q e H ⟨i,rfl,hi,hno,rfl,rfl⟩
  by_cases hgo:i<s.length∧s[i]?≠some 60
  ·obtain ⟨h,hne⟩:=hgo
   have hg:s[i]?=some s[i]:=List.getElem?_eq_getElem h
   have hsucc:=List.take_succ_eq_append_getElem h
   generalize s[i]=c at *
   have hc:¬ c.toNat=60:=fun e=>hne (by rw [hg,show c=60 from UInt8.toNat_inj.1 e])
   simp -dsimp (disch:=first | assumption | omega | (simp only [Aa];try omega)) only [↓AB,Aj,AA,Az,eq_self,Nat.reduceEqDiff,↓reduceIte,Nat.reduceAdd,reduceCtorEq,↓L6,A8,hg]
   exact BQ (s.length - (i+1)) (by omega) (by simp) ⟨i+1,rfl,by omega,(by rw [hsucc]; intro hm; rcases List.mem_append.1 hm with h1 | h1; exact hno h1; simp at h1; exact hc (by rw [←h1]; rfl)),rfl,rfl⟩
  ·have hend:i=s.length∨s[i]?=some 60:=by
    by_cases h:i<s.length
    ·exact .inr (Classical.byContradiction fun hn=>hgo ⟨h,hn⟩)
    ·exact .inl (by omega)
   clear hgo
   have go2:vwp Tryz.prog MW (Awf Nh fun x H'=>EC (Ox H' (ABT H' 2) x) (Ava s)) [(0,ts s),(2,.op 0 0 []),(4,.op 1 0 []),(5,i64 (i:Int)),(21,.val (.bool false))] [.obj 0 (OL ⟨[],[],0,0⟩),.obj 0 (OL ⟨[],[],0,0⟩)]:=by
    simp -dsimp (disch:=first | assumption | omega | (simp only [Aa];try omega)) only [↓AB,Aj,AA,Az,eq_self,Nat.reduceEqDiff,↓reduceIte,reduceCtorEq,↓Ag1,↓AgB]
    refine FU (fun q e H=>∃ j:Nat,q=s.length - j∧i≤j∧j≤s.length∧62∉(s.drop i).take (j - i)∧e=[(0,ts s),(2,.op 0 0 []),(4,.op 1 0 []),(5,i64 (i:Int)),(6,i64 (j:Int))]∧H=[.obj 0 (OL ⟨[],[],0,0⟩),.obj 0 (OL ⟨[],[],0,0⟩)]) (s.length - i) ?_ ?_
    ·exact ⟨i,rfl,by omega,hi,by simp,rfl,rfl⟩
    ·rintro q e H ⟨j,rfl,hij,hj,hno2,rfl,rfl⟩
     by_cases hgo:j<s.length∧s[j]?≠some 62
     ·obtain ⟨h,hne⟩:=hgo
      have hg:s[j]?=some s[j]:=List.getElem?_eq_getElem h
      have hsucc:(s.drop i).take (j+1 - i)=(s.drop i).take (j - i)++[s[j]]:=by
       rw [show j+1 - i=(j - i)+1 by omega,List.take_add_one,List.getElem?_drop,show i+(j - i)=j by omega,hg]
       rfl
      generalize s[j]=c at *
      have hc:¬ c.toNat=62:=fun e=>hne (by rw [hg,show c=62 from UInt8.toNat_inj.1 e])
      simp -dsimp (disch:=first | assumption | omega | (simp only [Aa];try omega)) only [↓AB,Aj,AA,Az,eq_self,Nat.reduceEqDiff,↓reduceIte,Nat.reduceAdd,reduceCtorEq,↓L9,A8,hg]
      exact BQ (s.length - (j+1)) (by omega) (by simp) ⟨j+1,rfl,by omega,by omega,(by rw [hsucc]; intro hm; rcases List.mem_append.1 hm with h1 | h1; exact hno2 h1; simp at h1; exact hc (by rw [←h1]; rfl)),rfl,rfl⟩
     ·have hend2:j=s.length∨s[j]?=some 62:=by
       by_cases h:j<s.length
       ·exact .inr (Classical.byContradiction fun hn=>hgo ⟨h,hn⟩)
       ·exact .inl (by omega)
      clear hgo
      have Az4:∀ p,EW p→I8 p=s→Bx9 p s i j:=fun p hp e=>Brv hp e hno hend hij hno2 hend2
      have go3:vwp Tryz.prog Na (Awf Nh fun x H'=>EC (Ox H' (ABT H' 2) x) (Ava s)) [(0,ts s),(2,.op 0 0 []),(4,.op 1 0 []),(5,i64 (i:Int)),(6,i64 (j:Int)),(34,.val (.bool false))] [.obj 0 (OL ⟨[],[],0,0⟩),.obj 0 (OL ⟨[],[],0,0⟩)]:=by
       by_cases b1:i<1
       ·simp -dsimp (disch:=first | assumption | omega | (simp only [Aa];try omega)) only [↓AB,Aj,AA,Az,eq_self,Nat.reduceEqDiff,↓reduceIte,Nat.reduceAdd,reduceCtorEq,↓H5,↓Ib,↓CU,A8]
        refine ⟨fun p hp e=>absurd (Az4 p hp e).one (by omega),fun _=>⟨⟨[],[],0,0⟩,⟨⟨by decide,by decide⟩,by decide,by decide⟩,rfl⟩⟩
       by_cases b2:j≥s.length
       ·simp -dsimp (disch:=first | assumption | omega | (simp only [Aa];try omega)) only [↓AB,Aj,AA,Az,eq_self,Nat.reduceEqDiff,↓reduceIte,Nat.reduceAdd,reduceCtorEq,↓H5,↓Ib,↓CU,A8]
        refine ⟨fun p hp e=>absurd (Az4 p hp e).len (by omega),fun _=>⟨⟨[],[],0,0⟩,⟨⟨by decide,by decide⟩,by decide,by decide⟩,rfl⟩⟩
       by_cases b3:s.length<j+9
       ·simp -dsimp (disch:=first | assumption | omega | (simp only [Aa];try omega)) only [↓AB,Aj,AA,Az,eq_self,Nat.reduceEqDiff,↓reduceIte,Nat.reduceAdd,reduceCtorEq,↓H5,↓Ib,↓CU,A8]
        refine ⟨fun p hp e => ?_,fun _=>⟨⟨[],[],0,0⟩,⟨⟨by decide,by decide⟩,by decide,by decide⟩,rfl⟩⟩
        have L:=Az4 p hp e
        have hl:=L.len
        have h0:1≤(Lib.decDigits p.time.toNat).length:=by
         cases hd:Lib.decDigits p.time.toNat with
         | nil=>exact absurd hd (ADo _)
         | cons a l=>simp
        omega
       have hij1:i+1≤j:=by
        rcases hend with h | h
        ·omega
        ·rcases hend2 with h' | h'
         ·omega
         ·have:i≠j:=fun e=>by rw [e,h'] at h; cases h
          omega
       generalize hN:s.length=N at *
       simp -dsimp (disch:=first | assumption | omega | (simp only [Aa];try omega)) only [↓AB,Aj,AA,Az,eq_self,Nat.reduceEqDiff,↓reduceIte,Nat.reduceAdd,reduceCtorEq,↓H5,↓Ib,↓Ahk,↓Af4,↓Ajo,A8,hN]
       refine (Ayh ((s.drop (j+2)).take (N - 6 - (j+2)))).calls rfl fun r hr => ?_
       subst hr
       have h22:N - 2 - (N - 4)=2:=by omega
       have hNN:N - (N - 2)=2:=by omega
       have htk2:(s.drop (N - 2)).take 2=s.drop (N - 2):=List.take_of_length_le (by rw [List.length_drop]; omega)
       have hc1:∀ t,Jh t .add (.string (str [49])) (.string (str ((s.drop (N - 4)).take 2)))=some (.string (str (49::(s.drop (N - 4)).take 2))):=fun t=>Aam (by simp; omega)
       have hc2:∀ t,Jh t .add (.string (str [49])) (.string (str (s.drop (N - 2))))=some (.string (str (49::s.drop (N - 2)))):=fun t=>Aam (by rw [List.length_drop]; simp; omega)
       simp -dsimp (disch:=first | assumption | omega | (simp only [Aa];try omega)) only [↓AB,Aj,AA,Az,eq_self,Nat.reduceEqDiff,↓reduceIte,Nat.reduceAdd,reduceCtorEq,↓Ajp,A8,hN,h22,hc1]
       refine (Ayh (49::(s.drop (N - 4)).take 2)).calls rfl fun r hr => ?_
       subst hr
       simp -dsimp (disch:=first | assumption | omega | (simp only [Aa];try omega)) only [↓AB,Aj,AA,Az,eq_self,Nat.reduceEqDiff,↓reduceIte,reduceCtorEq,↓Aji,A8,hN,hNN,htk2,hc2]
       refine (Ayh (49::s.drop (N - 2))).calls rfl fun r hr => ?_
       subst hr
       have bt:=AB8 ((s.drop (j+2)).take (N - 6 - (j+2)))
       have bh:=AB8 (49::(s.drop (N - 4)).take 2)
       have bm:=AB8 (49::s.drop (N - 2))
       have hL:∀ p,EW p→I8 p=s→(p.name=s.take (i - 1)∧p.mail=(s.drop (i+1)).take (j - (i+1))∧p.time=Ar7 ((s.drop (j+2)).take (N - 6 - (j+2)))
         ∧ Ar7 (49::(s.drop (N - 4)).take 2)=((100+p.zone.natAbs / 60:Nat):Int)∧Ar7 (49::s.drop (N - 2))=((100+p.zone.natAbs % 60:Nat):Int)∧s[N - 5]?=some (Aqw p.zone)):=fun p hp e=>by
        have L:=Az4 p hp e
        obtain ⟨_,_,q1,q2,q3,q4⟩:=hp
        have a:=L.time
        have b:=L.hrs
        have c:=L.mins
        have d:=L.sign
        rw [hN] at a b c d
        refine ⟨L.name.symm,L.mail.symm,?_,?_,?_,d⟩
        ·rw [a,Bmc (by omega)]; omega
        ·rw [b,ADn (by omega) (by omega)]; omega
        ·rw [c,ADn (by omega) (by omega)]; omega
       generalize Ar7 ((s.drop (j+2)).take (N - 6 - (j+2)))=tt at *
       generalize Ar7 (49::(s.drop (N - 4)).take 2)=hh at *
       generalize Ar7 (49::s.drop (N - 2))=mm at *
       generalize hn1:s.take (i - 1)=nm at *
       generalize hn2:(s.drop (i+1)).take (j - (i+1))=ml at *
       have bad2:hh<0∨mm<0→Ava s (.tup [OL ⟨nm,ml,tt,0⟩,tb false]):=fun hb=>by
        refine ⟨fun p hp e => ?_,fun _=>⟨_,⟨⟨by simp only; omega,by simp only; omega⟩,(show (-9223372036854775808:Int)≤0 by omega),(show (0:Int)≤9223372036854775807 by omega)⟩,rfl⟩⟩
        obtain ⟨_,_,_,e4,e5,_⟩:=hL p hp e
        omega
       by_cases c1:hh<0
       ·simp -dsimp (disch:=first | assumption | omega | (simp only [Aa];try omega)) only [↓AB,Aj,AA,Az,eq_self,Nat.reduceEqDiff,↓reduceIte,Nat.reduceAdd,reduceCtorEq,↓Me,↓CU]
        exact bad2 (.inl c1)
       by_cases c2:mm<0
       ·simp -dsimp (disch:=first | assumption | omega | (simp only [Aa];try omega)) only [↓AB,Aj,AA,Az,eq_self,Nat.reduceEqDiff,↓reduceIte,Nat.reduceAdd,reduceCtorEq,↓Me,↓CU]
        exact bad2 (.inr c2)
       simp -dsimp (disch:=first | assumption | omega | (simp only [Aa];try omega)) only [↓AB,Aj,AA,Az,eq_self,Nat.reduceEqDiff,↓reduceIte,Nat.reduceAdd,reduceCtorEq,↓Me,↓Ajr]
       have hgc:s[N - 5]?=some s[N - 5]:=List.getElem?_eq_getElem (by omega)
       generalize s[N - 5]=c at *
       have hvv:∀ p,EW p→I8 p=s→(hh - 100)*60+mm - 100=((p.zone.natAbs:Nat):Int):=fun p hp e=>by
        obtain ⟨_,_,_,e4,e5,_⟩:=hL p hp e
        omega
       by_cases hc45:c.toNat=45
       ·obtain ⟨q,hq⟩:∃ q:Per,q=⟨nm,ml,tt,-((hh - 100)*60+mm - 100)⟩:=⟨_,rfl⟩
        have key:∀ p,EW p→I8 p=s→p=q:=fun p hp e=>by
         obtain ⟨e1,e2,e3,_,_,e6⟩:=hL p hp e
         have hv:=hvv p hp e
         rw [hgc,show c=45 from UInt8.toNat_inj.1 hc45] at e6
         have e7:=Option.some.inj e6
         unfold Aqw at e7
         split at e7
         ·obtain ⟨pn,pm,pt,pz⟩:=p
          simp only at *
          rw [hq,e1,e2,e3,hv]
          congr 1
          omega
         ·cases e7
        have hneg:unV .neg (.int .i64 ((hh - ((100:Nat):Int))*((60:Nat):Int)+mm - ((100:Nat):Int)))=some (.int .i64 (-((hh - 100)*60+mm - 100))):=by
         have e:Op.unary .neg (.int .i64 ((hh - ((100:Nat):Int))*((60:Nat):Int)+mm - ((100:Nat):Int))) = .pure (.int .i64 (IntKind.i64.wrap (0 - ((hh - ((100:Nat):Int))*((60:Nat):Int)+mm - ((100:Nat):Int))))):=rfl
         unfold unV
         rw [e,Int.zero_sub,Gl (by omega) (by omega)]
         rfl
        simp -dsimp (disch:=first | assumption | omega | (simp only [Aa];try omega)) only [↓AB,Aj,AA,Az,eq_self,Nat.reduceEqDiff,↓reduceIte,Nat.reduceAdd,reduceCtorEq,↓Rf,A8,hgc,hneg]
        rw [show TV.agg [TV.val (Value.string (str nm)),TV.val (Value.string (str ml)),i64 tt,TV.val (Value.int IntKind.i64 (-((hh - 100)*60+mm - 100)))]=OL q by rw [hq]]
        have hfit:Qq q:=by subst hq; exact ⟨⟨by simp only; omega,by simp only; omega⟩,by simp only; omega,by simp only; omega⟩
        have fin:∀ β:Bool,(β=true↔EW q∧I8 q=s)→Ava s (.tup [OL q,tb β]):=fun β hβ=>by
         refine ⟨fun p hp e => ?_,fun h => ?_⟩
         ·obtain rfl:=key p hp e
          rw [hβ.2 ⟨hp,e⟩]
         ·refine ⟨q,hfit,?_⟩
          cases β with
          | false=>rfl
          | true=>exact absurd (hβ.1 rfl).2 (h q (hβ.1 rfl).1)
        clear hq
        simp -dsimp (disch:=first | assumption | omega | (simp only [Aa];try omega)) only [↓AB,Aj,AA,Az,eq_self,Nat.reduceEqDiff,↓reduceIte,Nat.reduceAdd,reduceCtorEq,↓Rt]
        refine (Bjv q hfit).calls rfl fun r hr => ?_
        by_cases hok:EW q
        ·rw [hr.1 hok]
         by_cases heq:I8 q=s
         ·simp -dsimp (disch:=first | assumption | omega | (simp only [Aa];try omega)) only [↓AB,Aj,AA,Az,eq_self,Nat.reduceEqDiff,↓reduceIte,Nat.reduceAdd,reduceCtorEq,heq,↓CU]
          exact fin true ⟨fun _=>⟨hok,heq⟩,fun _=>rfl⟩
         ·simp -dsimp (disch:=first | assumption | omega | (simp only [Aa];try omega)) only [↓AB,Aj,AA,Az,eq_self,Nat.reduceEqDiff,↓reduceIte,Nat.reduceAdd,reduceCtorEq,heq,↓CU]
          exact fin false ⟨fun h=>(by cases h),fun h=>absurd h.2 heq⟩
        ·rw [hr.2 hok]
         simp -dsimp (disch:=first | assumption | omega | (simp only [Aa];try omega)) only [↓AB,Aj,AA,Az,eq_self,Nat.reduceEqDiff,↓reduceIte,Nat.reduceAdd,reduceCtorEq,↓CU]
         exact fin false ⟨fun h=>(by cases h),fun h=>absurd h.1 hok⟩
       ·obtain ⟨q,hq⟩:∃ q:Per,q=⟨nm,ml,tt,(hh - 100)*60+mm - 100⟩:=⟨_,rfl⟩
        have key:∀ p,EW p→I8 p=s→p=q:=fun p hp e=>by
         obtain ⟨e1,e2,e3,_,_,e6⟩:=hL p hp e
         have hv:=hvv p hp e
         rw [hgc] at e6
         have e7:=Option.some.inj e6
         unfold Aqw at e7
         split at e7
         ·exact absurd (by rw [e7]; rfl) hc45
         ·obtain ⟨pn,pm,pt,pz⟩:=p
          simp only at *
          rw [hq,e1,e2,e3,hv]
          congr 1
          omega
        simp -dsimp (disch:=first | assumption | omega | (simp only [Aa];try omega)) only [↓AB,Aj,AA,Az,eq_self,Nat.reduceEqDiff,↓reduceIte,reduceCtorEq,↓Rf,A8,hgc]
        rw [show TV.agg [TV.val (Value.string (str nm)),TV.val (Value.string (str ml)),i64 tt,TV.val (Value.int IntKind.i64 ((hh - ((100:Nat):Int))*((60:Nat):Int)+mm - ((100:Nat):Int)))]=OL q by rw [hq]; rfl]
        have hfit:Qq q:=by subst hq; exact ⟨⟨by simp only; omega,by simp only; omega⟩,by simp only; omega,by simp only; omega⟩
        have fin:∀ β:Bool,(β=true↔EW q∧I8 q=s)→Ava s (.tup [OL q,tb β]):=fun β hβ=>by
         refine ⟨fun p hp e => ?_,fun h => ?_⟩
         ·obtain rfl:=key p hp e
          rw [hβ.2 ⟨hp,e⟩]
         ·refine ⟨q,hfit,?_⟩
          cases β with
          | false=>rfl
          | true=>exact absurd (hβ.1 rfl).2 (h q (hβ.1 rfl).1)
        clear hq
        simp -dsimp (disch:=first | assumption | omega | (simp only [Aa];try omega)) only [↓AB,Aj,AA,Az,eq_self,Nat.reduceEqDiff,↓reduceIte,Nat.reduceAdd,reduceCtorEq,↓Rt]
        refine (Bjv q hfit).calls rfl fun r hr => ?_
        by_cases hok:EW q
        ·rw [hr.1 hok]
         by_cases heq:I8 q=s
         ·simp -dsimp (disch:=first | assumption | omega | (simp only [Aa];try omega)) only [↓AB,Aj,AA,Az,eq_self,Nat.reduceEqDiff,↓reduceIte,Nat.reduceAdd,reduceCtorEq,heq,↓CU]
          exact fin true ⟨fun _=>⟨hok,heq⟩,fun _=>rfl⟩
         ·simp -dsimp (disch:=first | assumption | omega | (simp only [Aa];try omega)) only [↓AB,Aj,AA,Az,eq_self,Nat.reduceEqDiff,↓reduceIte,Nat.reduceAdd,reduceCtorEq,heq,↓CU]
          exact fin false ⟨fun h=>(by cases h),fun h=>absurd h.2 heq⟩
        ·rw [hr.2 hok]
         simp -dsimp (disch:=first | assumption | omega | (simp only [Aa];try omega)) only [↓AB,Aj,AA,Az,eq_self,Nat.reduceEqDiff,↓reduceIte,Nat.reduceAdd,reduceCtorEq,↓CU]
         exact fin false ⟨fun h=>(by cases h),fun h=>absurd h.1 hok⟩
      rcases hend2 with hend2 | hend2
      ·have hlt:¬ j<s.length:=by omega
       simp -dsimp (disch:=first | assumption | omega | (simp only [Aa];try omega)) only [↓AB,Aj,AA,Az,eq_self,Nat.reduceEqDiff,↓reduceIte,reduceCtorEq,↓L9,A8]
       exact go3
      ·obtain ⟨hl,_⟩:=List.getElem?_eq_some_iff.1 hend2
       simp -dsimp (disch:=first | assumption | omega | (simp only [Aa];try omega)) only [↓AB,Aj,AA,Az,eq_self,Nat.reduceEqDiff,UInt8.reduceToNat,↓reduceIte,reduceCtorEq,↓L9,A8,hend2]
       exact go3
   rcases hend with hend | hend
   ·have hlt:¬ i<s.length:=by omega
    simp -dsimp (disch:=first | assumption | omega | (simp only [Aa];try omega)) only [↓AB,Aj,AA,Az,eq_self,Nat.reduceEqDiff,↓reduceIte,reduceCtorEq,↓L6,A8]
    exact go2
   ·obtain ⟨hl,_⟩:=List.getElem?_eq_some_iff.1 hend
    simp -dsimp (disch:=first | assumption | omega | (simp only [Aa];try omega)) only [↓AB,Aj,AA,Az,eq_self,Nat.reduceEqDiff,UInt8.reduceToNat,↓reduceIte,reduceCtorEq,↓L6,A8,hend]
    exact go2
end
section
open Go.RowKit
variable [Cc] [AX] [Ba] [Bd] [GH]
theorem AAQ:∀ {l m:List (List UInt8)} {r q:List UInt8},(∀ x∈l,10∉x)→(∀ x∈m,10∉x)→mb Et q=true→LJ m++q=LJ l++r→∃ l',m=l++l'
 | [],m,r,q,_,_,_,_=>⟨m,rfl⟩
 | u::l,[],r,q,hl,_,hq,e=>by
  exfalso
  simp only [LJ,List.nil_append,List.append_assoc,List.cons_append] at e
  have:=(LY (w:=Et) (v:=u) (r:=LJ l++r) (by decide) (hl u (by simp))).1
  rw [←e,hq] at this; cases this
 | u::l,v::m,r,q,hl,hm,hq,e=>by
  simp only [LJ,List.append_assoc,List.cons_append] at e
  obtain ⟨_,a1,a2⟩:=LY (w:=Et) (v:=u) (r:=LJ l++r) (by decide) (hl u (by simp))
  obtain ⟨_,b1,b2⟩:=LY (w:=Et) (v:=v) (r:=LJ m++q) (by decide) (hm v (by simp))
  rw [←e] at a1 a2
  obtain ⟨l',h2⟩:=AAQ (fun x hx=>hl x (by simp [hx])) (fun x hx=>hm x (by simp [hx])) hq (b2.symm.trans a2)
  exact ⟨l',by rw [←a1,b1,h2,List.cons_append]⟩
theorem ACC {c:Bk7} {s:List UInt8} (hc:Awj c) (e:cmB c=s):mb Ea s=false∧FT (mv Ea s)=true:=by
 subst e
 obtain ⟨a,b,_⟩:=LY (w:=Ea) (v:=FW c.tree) (r:=LJ (c.pars.map FW)++Vp (I8 c.author) (I8 c.comm) c.msg) (by decide) (XU c.tree)
 exact ⟨a,by rw [show mv Ea (cmB c)=FW c.tree from b]; exact Awa hc.1⟩
theorem BqK {c:Bk7} {s r x:List UInt8} {l:List (List UInt8)} (hc:Awj c) (e:cmB c=s) (hs:mr Ea s=LJ l++r) (h10:∀ y∈l,10∉y) (hx:x∈l):FT x=true:=by
 subst e
 obtain ⟨_,_,d⟩:=LY (w:=Ea) (v:=FW c.tree) (r:=LJ (c.pars.map FW)++Vp (I8 c.author) (I8 c.comm) c.msg) (by decide) (XU c.tree)
 have d':mr Ea (cmB c)=LJ (c.pars.map FW)++Vp (I8 c.author) (I8 c.comm) c.msg:=d
 rw [d'] at hs
 obtain ⟨l',hl'⟩:=AAQ h10 (fun p hp=>by obtain ⟨q,_,rfl⟩:=List.mem_map.1 hp; exact XU q) ACK hs
 have hm:x∈c.pars.map FW:=by rw [hl']; exact List.mem_append_left _ hx
 obtain ⟨y,hy,rfl⟩:=List.mem_map.1 hm
 exact Awa (hc.2.1 y hy)
theorem Bqz {c:Bk7} {s x t:List UInt8} {l:List (List UInt8)} (hc:Awj c) (e:cmB c=s) (hR:Bpr s x l t):mb Cf t=false∧mb BM (mr Cf t)=false∧∃ m,mr BM (mr Cf t)=10::m:=by
 subst e
 obtain ⟨_,_,rfl⟩:=hR.one ACB
 obtain ⟨_,_,_,_,c5,c6,_⟩:=hc
 obtain ⟨e1,e2,e3,e4,e5⟩:=Bpy (m:=c.msg) (Ago c5) (Ago c6)
 exact ⟨e1,e3,_,e5⟩
def ADx (s:List UInt8) (r:TV):Prop:=(∀ c,Awj c→cmB c=s→r = .tup [cmT c,tb true])∧((∀ c,Awj c→cmB c≠s)→∃ x Y q1 q2 m,x.length=20∧(Y = .val (.slice none 0 0)∨∃ ps:List (List UInt8),Y = .sl 20 (ps.map Lp))∧r = .tup [.agg [Lp x,Y,OL q1,OL q2,ts m],tb false])
theorem ADs {s x m:List UInt8} {Y:TV} {q1 q2:Per} (h:∀ c,Awj c→cmB c≠s) (hx:x.length=20) (hY:Y = .val (.slice none 0 0)∨∃ ps:List (List UInt8),Y = .sl 20 (ps.map Lp)):ADx s (.tup [.agg [Lp x,Y,OL q1,OL q2,ts m],tb false]) :=
 ⟨fun c hc e=>absurd e (h c hc),fun _=>⟨x,Y,q1,q2,m,hx,hY,rfl⟩⟩
structure RrH (H:List Ob) (X:TV) (y:List UInt8) (v:Nat) (ps:List TV):Prop where
 z:H[0]?=some (.obj 0 Boi)
 c:H[1]?=some (.obj 0 X)
 i:H[2]?=some (.obj 0 (Lp y))
 p:H[3]?=some (.obj v (.arr ps.length 20 ps))
section
variable {H:List Ob} {y y':List UInt8} {X X':TV} {v v':Nat} {ps ps':List TV}
theorem RrH.len (h:RrH H X y v ps):3<H.length:=(List.getElem?_eq_some_iff.1 h.p).1
theorem RrH.app (h:RrH H X y v ps) (T:List Ob):RrH (H++T) X y v ps:=by
 have hl:=h.len
 exact ⟨by rw [List.getElem?_append_left (by omega)]; exact h.z,by rw [List.getElem?_append_left (by omega)]; exact h.c,by rw [List.getElem?_append_left (by omega)]; exact h.i,by rw [List.getElem?_append_left (by omega)]; exact h.p⟩
theorem RrH.setC (h:RrH H X y v ps) (X':TV):RrH (H.set 1 (.obj 0 X')) X' y v ps:=by
 have hl:=h.len
 exact ⟨by rw [List.getElem?_set_ne (by omega)]; exact h.z,by rw [List.getElem?_set_self (by omega)],by rw [List.getElem?_set_ne (by omega)]; exact h.i,by rw [List.getElem?_set_ne (by omega)]; exact h.p⟩
theorem RrH.setI (h:RrH H X y v ps) (y':List UInt8):RrH (H.set 2 (.obj 0 (Lp y'))) X y' v ps:=by
 have hl:=h.len
 exact ⟨by rw [List.getElem?_set_ne (by omega)]; exact h.z,by rw [List.getElem?_set_ne (by omega)]; exact h.c,by rw [List.getElem?_set_self (by omega)],by rw [List.getElem?_set_ne (by omega)]; exact h.p⟩
theorem RrH.setP (h:RrH H X y v ps) (v':Nat) (ps':List TV) (n:Nat) (hn:n=ps'.length):RrH (H.set 3 (.obj v' (.arr n 20 ps'))) X y v' ps':=by
 have hl:=h.len
 subst hn
 exact ⟨by rw [List.getElem?_set_ne (by omega)]; exact h.z,by rw [List.getElem?_set_ne (by omega)]; exact h.c,by rw [List.getElem?_set_ne (by omega)]; exact h.i,by rw [List.getElem?_set_self (by omega)]⟩
end
abbrev Bpu (x:List UInt8) (v n cp:Nat):TV := .agg [Lp (BC x),.os 20 3 v [] 0 n cp,OL ⟨[],[],0,0⟩,OL ⟨[],[],0,0⟩,ts []]
theorem AC1 {s:List UInt8} {r:TV} (hr:Ava s r):∃ (q:Per) (ok:Bool),r = .tup [OL q,tb ok]∧Qq q∧(ok=true→EW q∧I8 q=s)∧(ok=false→∀ p,EW p→I8 p≠s):=by
 by_cases h:∃ p,EW p∧I8 p=s
 ·obtain ⟨p,hp,e⟩:=h
  refine ⟨p,true,hr.1 p hp e,?_,fun _=>⟨hp,e⟩,fun h=>(by cases h)⟩
  obtain ⟨_,_,q1,q2,q3,q4⟩:=hp
  exact ⟨⟨by omega,by omega⟩,by omega,by omega⟩
 ·have h':∀ p,EW p→I8 p≠s:=fun p hp e=>h ⟨p,hp,e⟩
  obtain ⟨q,hfq,hq⟩:=hr.2 h'
  exact ⟨q,false,hq,hfq,fun h=>(by cases h),fun _=>h'⟩
set_option maxHeartbeats 2000000 in
theorem AtF (s:List UInt8) (hs:s.length≤1000000):CE Tryz.prog 44 [slB s] (ADx s):=by
 refine BD.toPureV (Arr (by simp) ?_)
 have m1:=V6 Ea s
 have l1:=Ate s Ea hs (by decide) (by decide)
 have hpr:=Avn (mv Ea s) (by omega)
 have hpl:((BC (mv Ea s)).map by8).length=20:=by rw [List.length_map]; exact Ew
 simp -dsimp (disch:=first | assumption | omega | (simp only [Aa];try omega)) only [↓AB,Aj,AA,Az,eq_self,Nat.reduceEqDiff,↓reduceIte,reduceCtorEq,↓ApZ,↓Ahs,↓Ahb,↓Ag0]
 refine l1.calls rfl fun r hr => ?_
 subst hr
 simp -dsimp (disch:=first | assumption | omega | (simp only [Aa];try omega)) only [↓AB,Aj,AA,Az,eq_self,Nat.reduceEqDiff,↓reduceIte,reduceCtorEq,↓Ag4]
 refine hpr.calls rfl fun r hr => ?_
 subst hr
 have z20:(zer 20).length=20:=rfl
 cases hb1:mb Ea s
 case true =>
  simp -dsimp (disch:=first | assumption | omega | (simp only [Aa];try omega)) only [↓AB,Aj,AA,Az,eq_self,Nat.reduceEqDiff,↓reduceIte,Nat.reduceAdd,reduceCtorEq,↓Lu,↓Dk]
  exact ADs (x:=zer 20) (q1:=⟨[],[],0,0⟩) (q2:=⟨[],[],0,0⟩) (m:=[]) (fun c hc e=>by rw [(ACC hc e).1] at hb1; cases hb1) z20 (.inl rfl)
 cases hb2:FT (mv Ea s)
 case false =>
  simp -dsimp (disch:=first | assumption | omega | (simp only [Aa];try omega)) only [↓AB,Aj,AA,Az,eq_self,Nat.reduceEqDiff,↓reduceIte,Nat.reduceAdd,reduceCtorEq,↓Lu,↓Dk]
  exact ADs (x:=zer 20) (q1:=⟨[],[],0,0⟩) (q2:=⟨[],[],0,0⟩) (m:=[]) (fun c hc e=>by rw [(ACC hc e).2] at hb2; cases hb2) z20 (.inl rfl)
 simp -dsimp (disch:=first | assumption | omega | (simp only [Aa];try omega)) only [↓AB,Aj,AA,Az,eq_self,Nat.reduceEqDiff,↓reduceIte,Nat.reduceAdd,reduceCtorEq,↓Lu,↓Af9,↓Ahn]
 refine FU (fun q e H=>∃ (l:List (List UInt8)) (rest y:List UInt8) (v cp:Nat),q=rest.length∧mr Ea s=LJ l++rest∧(∀ x∈l,10∉x)∧l.all FT=true∧y.length=20 ∧
  RrH H (Bpu (mv Ea s) v l.length cp) y v ((l.map BC).map Lp)∧e=[(0,slB s),(2,.op 0 0 []),(4,.op 1 0 []),(5,ts rest),(8,.op 2 0 [])]) (mr Ea s).length ?_ ?_
 ·exact ⟨[],mr Ea s,BC (mv Ea s),0,0,rfl,rfl,by simp,rfl,Ew,⟨rfl,rfl,rfl,rfl⟩,rfl⟩
 ·rintro q e H ⟨l,rest,y,v,cp,rfl,hspl,h10,hall,hy20,R,rfl⟩
  have hrl:l.length+rest.length≤1000000:=by
   have h1:=congrArg List.length hspl
   have h2:=AzC l
   rw [List.length_append] at h1
   omega
  have hpsl:((l.map BC).map Lp).length=l.length:=by simp
  have hpt:((l.map BC).map Lp).take l.length=(l.map BC).map Lp:=List.take_of_length_le (by simp)
  have hyl:(y.map by8).length=20:=by rw [List.length_map]; exact hy20
  have m2:=V6 Et rest
  have l2:=Ate rest Et (by omega) (by decide) (by decide)
  simp -dsimp (disch:=first | assumption | omega | (simp only [Aa];try omega)) only [↓AB,Aj,AA,Az,eq_self,Nat.reduceEqDiff,↓reduceIte,reduceCtorEq,↓AiR]
  refine l2.calls rfl fun r hr => ?_
  subst hr
  cases hb:mb Et rest with
  | false =>
   obtain ⟨hmo,hm10⟩:=Pj hb
   have hsn:=AlY (v:=mv Et rest) (l:=l) (r:=mr Et rest)
   rw [←hmo,←hspl] at hsn
   have hlr:=congrArg List.length hmo
   simp only [List.length_append,List.length_cons] at hlr
   generalize mv Et rest=x at *
   generalize mr Et rest=rest' at *
   have h10':∀ y∈l++[x],10∉y:=by
    intro y hy
    rcases List.mem_append.1 hy with hy | hy
    ·exact h10 y hy
    ·rw [List.mem_singleton] at hy; subst hy; exact hm10
   have hRl:=R.len
   have hxp:((BC x).map by8).length=20:=by rw [List.length_map]; exact Ew
   have hpx:=Avn x (by omega)
   simp -dsimp (disch:=first | assumption | omega | (simp only [Aa];try omega)) only [↓AB,Aj,AA,Az,eq_self,Nat.reduceEqDiff,↓reduceIte,reduceCtorEq,↓Q8,↓Ai9,↓Ajw]
   refine hpx.calls rfl fun r hr => ?_
   subst hr
   have R2:=R.setI (BC x)
   have hH2:∀ o:Ob,(H.set 2 o).length=H.length:=fun o=>List.length_set ..
   cases hbx:FT x with
   | false =>
    simp -dsimp (disch:=first | assumption | omega | (simp only [Aa];try omega)) only [↓AB,Aj,AA,Az,eq_self,Nat.reduceEqDiff,↓reduceIte,Nat.reduceAdd,reduceCtorEq,R.i,R.c,R.z,R.p,hpsl,List.getElem?_set_self,↓Dk]
    exact ADs (x:=BC (mv Ea s)) (q1:=⟨[],[],0,0⟩) (q2:=⟨[],[],0,0⟩) (m:=[]) (fun c hc e=>by rw [BqK hc e hsn.symm h10' (by simp)] at hbx; cases hbx) Ew (.inr ⟨l.map BC,rfl⟩)
   | true =>
    have hY3:∀ T:List Ob,(H.set 2 (Ob.obj 0 (Lp (BC x)))++T)[3]?=H[3]?:=fun T=>by rw [List.getElem?_append_left (by rw [List.length_set]; omega),List.getElem?_set_ne (by omega)]
    have hY1:∀ T:List Ob,(H.set 2 (Ob.obj 0 (Lp (BC x)))++T)[1]?=H[1]?:=fun T=>by rw [List.getElem?_append_left (by rw [List.length_set]; omega),List.getElem?_set_ne (by omega)]
    simp -dsimp (disch:=first | assumption | omega | (simp only [Aa];try omega)) only [↓AB,Aj,AA,Az,eq_self,Nat.reduceEqDiff,↓reduceIte,Nat.reduceAdd,reduceCtorEq,Nat.reduceLeDiff,R.i,R.c,R.p,hY3,hpsl,Atf,List.getElem?_set_self]
    have R6:=(((R.setI (BC x)).setP (v+1) (((l++[x]).map BC).map Lp) (l.length+1) (by simp)).setC (Bpu (mv Ea s) (v+1) (l.length+1) (l.length+1))).app [Ob.obj 0 (.arr 1 20 ((List.replicate 1 (.arr 20 1 (List.replicate 20 (.val (.int .u8 ((0:Nat):Int)))))).set 0 (Lp (BC x))))]
    have e1:((l++[x]).map BC).map Lp=(l.map BC).map Lp++[TV.arr 20 1 ((BC x).map by8)]:=by simp
    have e2:(l++[x]).length=l.length+1:=by simp
    refine BQ rest'.length (by omega) (by simp; omega) ⟨l++[x],rest',BC x,v+1,l.length+1,rfl,hsn.symm,h10',by simp [hall,hbx],Ew,by rw [e1,e2]; rw [e1] at R6; exact R6,rfl⟩
  | true =>
   have l3:=Ate rest Cf (by omega) (by decide) (by decide)
   have m3:=V6 Cf rest
   have m4:=V6 BM (mr Cf rest)
   have l4:=Ate (mr Cf rest) BM (by omega) (by decide) (by decide)
   simp -dsimp (disch:=first | assumption | omega | (simp only [Aa];try omega)) only [↓AB,Aj,AA,Az,eq_self,Nat.reduceEqDiff,↓reduceIte,reduceCtorEq,↓Q8,↓Agg]
   refine l3.calls rfl fun r hr => ?_
   subst hr
   simp -dsimp (disch:=first | assumption | omega | (simp only [Aa];try omega)) only [↓AB,Aj,AA,Az,eq_self,Nat.reduceEqDiff,↓reduceIte,reduceCtorEq,↓Agw]
   refine l4.calls rfl fun r hr => ?_
   subst hr
   have hRead:Bpr s (mv Ea s) l rest:=⟨by rw [←hspl]; exact (Pj hb1).1,(Pj hb1).2,h10,hb⟩
   by_cases hgo:mb Cf rest=false∧mb BM (mr Cf rest)=false∧∃ m,mr BM (mr Cf rest)=10::m
   case neg =>
    have hno:∀ c,Awj c→cmB c≠s:=fun c hc e=>hgo (Bqz hc e hRead)
    have hRl:=R.len
    have fin:ADx s (.tup [.agg [Lp (BC (mv Ea s)),.sl 20 ((l.map BC).map Lp),OL ⟨[],[],0,0⟩,OL ⟨[],[],0,0⟩,ts []],tb false]):=ADs hno Ew (.inr ⟨l.map BC,rfl⟩)
    clear l1 l2 l3 l4 hpr hspl h10 hall hRead hno
    cases b3:mb Cf rest<;>cases b4:mb BM (mr Cf rest)
    case false.false =>
     have hnm:¬ ∃ m,mr BM (mr Cf rest)=10::m:=fun h=>hgo ⟨b3,b4,h⟩
     cases ht:mr BM (mr Cf rest) with
     | nil =>
      simp -dsimp (disch:=first | assumption | omega | (simp only [Aa];try omega)) only [↓AB,Aj,AA,Az,eq_self,Nat.reduceLT,Nat.reduceEqDiff,↓reduceIte,Nat.reduceAdd,reduceCtorEq,A8,R.c,R.z,R.p,hpsl,List.getElem?_set_self,↓Ia,↓Dk]
      exact fin
     | cons c m =>
      have hc:¬ c.toNat=10:=fun e=>hnm ⟨m,by rw [ht,show c=10 from UInt8.toNat_inj.1 e]⟩
      simp -dsimp (disch:=first | assumption | omega | (simp only [Aa];try omega)) only [↓AB,Aj,AA,Az,eq_self,Nat.reduceEqDiff,↓reduceIte,Nat.reduceAdd,reduceCtorEq,A8,hc,R.c,R.z,R.p,hpsl,List.getElem?_set_self,↓Ia,↓Dk]
      exact fin
    all_goals
     simp -dsimp (disch:=first | assumption | omega | (simp only [Aa];try omega)) only [↓AB,Aj,AA,Az,eq_self,Nat.reduceEqDiff,↓reduceIte,Nat.reduceAdd,reduceCtorEq,R.c,R.z,R.p,hpsl,List.getElem?_set_self,↓Ia,↓Dk]
     exact fin
   obtain ⟨g1,g2,m,g3⟩:=hgo
   simp -dsimp (disch:=first | assumption | omega | (simp only [Aa];try omega)) only [↓AB,Aj,AA,Az,eq_self,Nat.reduceEqDiff,UInt8.reduceToNat,↓reduceIte,reduceCtorEq,g1,g2,g3,A8,↓Ia,↓Ajj]
   have hr1:=Aky (mv Cf rest) (by omega)
   have hr2:=Aky (mv BM (mr Cf rest)) (by omega)
   refine hr1.calls rfl fun r hr => ?_
   obtain ⟨q1,ok1,rfl,hf1,h1,h1'⟩:=AC1 hr
   simp -dsimp (disch:=first | assumption | omega | (simp only [Aa];try omega)) only [↓AB,Aj,AA,Az,eq_self,Nat.reduceEqDiff,↓reduceIte,Nat.reduceAdd,reduceCtorEq,R.c,↓Ajc]
   refine hr2.calls rfl fun r hr => ?_
   obtain ⟨q2,ok2,rfl,hf2,h2,h2'⟩:=AC1 hr
   have hRl:=R.len
   have R3:=fun X=>R.setC X
   have hS:∀ a b:Ob,(H.set 1 a).set 1 b=H.set 1 b:=fun a b=>List.set_set ..
   simp -dsimp (disch:=first | assumption | omega | (simp only [Aa];try omega)) only [↓AB,Aj,AA,Az,eq_self,Nat.reduceEqDiff,↓reduceIte,Nat.reduceAdd,reduceCtorEq,Nat.reduceLeDiff,(R3 _).c,hS,A8,↓Ajd,↓Ai8]
   have R4:=R3 (.agg [Lp (BC (mv Ea s)),.os 20 3 v [] 0 l.length cp,OL q1,OL q2,ts m])
   generalize H.set 1 (Ob.obj 0 (.agg [Lp (BC (mv Ea s)),.os 20 3 v [] 0 l.length cp,OL q1,OL q2,ts m]))=H4 at *
   have hRl4:=R4.len
   have hfit:Bpq ⟨BC (mv Ea s),l.map BC,q1,q2,m⟩:=⟨Ew,fun y hy=>by obtain ⟨z,_,rfl⟩:=List.mem_map.1 hy; exact Ew,by simp; omega,hf1,hf2⟩
   have hmm:m=Lib.trimPrefix (mr BM (mr Cf rest)) [10]:=by rw [g3]; exact Ayw.2.symm
   have fin:=Bjt (s:=s) (x:=mv Ea s) (t:=rest) (ps:=l) (ok1:=ok1) (ok2:=ok2) (nd:=decide (l.map BC).Nodup) (q1:=q1) (q2:=q2) (fun _=>hRead) (fun _=>by simp) h1 h1' h2 h2'
   rw [←hmm] at fin
   have hw:=Ayn ⟨BC (mv Ea s),l.map BC,q1,q2,m⟩ hfit
   have key:∀ β:Bool,(β=true↔ok1=true∧ok2=true∧Awj ⟨BC (mv Ea s),l.map BC,q1,q2,m⟩∧cmB ⟨BC (mv Ea s),l.map BC,q1,q2,m⟩=s) →
     ADx s (.tup [.agg [Lp (BC (mv Ea s)),.sl 20 ((l.map BC).map Lp),OL q1,OL q2,ts m],tb β]):=fun β hβ=>by
    refine ⟨fun c hc e => ?_,fun h=>⟨BC (mv Ea s),_,q1,q2,m,Ew,.inr ⟨l.map BC,rfl⟩,?_⟩⟩
    ·obtain ⟨f1,rfl⟩:=fin.2.2 c hc e
     unfold AgO at f1
     simp only [Bool.and_eq_true] at f1
     rw [hβ.2 ⟨f1.1.1.1.1.1.1.2,f1.1.1.1.1.2,hc,e⟩]
    ·cases β with
     | false=>rfl
     | true=>exact absurd (hβ.1 rfl).2.2.2 (h _ (hβ.1 rfl).2.2.1)
   clear fin h1 h1' h2 h2' l1 l2 l3 l4 hpr hr1 hr2 hRead hall h10 hspl R3 R g3
   refine hw.lends (args':=[cmT ⟨BC (mv Ea s),l.map BC,q1,q2,m⟩]) (by simp -dsimp (disch:=first | assumption | omega | (simp only [Aa];try omega)) only [AA,Az,eq_self,↓reduceIte,R4.p,hpsl]) fun r hr => ?_
   have hun:∀ l:List UInt8,(l.map by8).map ApP=l:=fun l=>AuL
   by_cases hT:Awj ⟨BC (mv Ea s),l.map BC,q1,q2,m⟩
   ·rw [hr.1 hT]
    by_cases heq:cmB ⟨BC (mv Ea s),l.map BC,q1,q2,m⟩=s
    ·rw [heq]
     cases ok1<;>cases ok2
     case true.true =>
      simp -dsimp (disch:=first | assumption | omega | (simp only [Aa];try omega)) only [↓AB,Aj,AA,Az,eq_self,Nat.reduceEqDiff,Nat.reduceMod,↓reduceIte,Nat.reduceAdd,reduceCtorEq,hun,hpsl,R4.c,R4.p,R4.z,List.getElem?_set_self,↓IY,↓Dk]
      refine ⟨key true ⟨fun _=>⟨rfl,rfl,hT,heq⟩,fun _=>rfl⟩,?_⟩
      change Aat [123,125] _ _ _; exact LZ (by simp [get]) (LZ (by simp [get]) O1)
     all_goals
      simp -dsimp (disch:=first | assumption | omega | (simp only [Aa];try omega)) only [↓AB,Aj,AA,Az,eq_self,Nat.reduceEqDiff,Nat.reduceMod,↓reduceIte,Nat.reduceAdd,reduceCtorEq,hpsl,R4.c,R4.p,R4.z,List.getElem?_set_self,↓IY,↓Dk]
      refine ⟨key false ⟨fun h=>(by cases h),fun h=>(by have h1:=h.1; have h2:=h.2.1; first | cases h1; done | cases h2; done)⟩,?_⟩
      change Aat [123,125] _ _ _; exact LZ (by simp [get]) (LZ (by simp [get]) O1)
    ·generalize cmB ⟨BC (mv Ea s),l.map BC,q1,q2,m⟩=T at *
     cases ok1<;>cases ok2
     all_goals
      simp -dsimp (disch:=first | assumption | omega | (simp only [Aa];try omega)) only [↓AB,Aj,AA,Az,eq_self,Nat.reduceEqDiff,Nat.reduceMod,↓reduceIte,Nat.reduceAdd,reduceCtorEq,hun,heq,hpsl,R4.c,R4.p,R4.z,List.getElem?_set_self,↓IY,↓Dk]
      refine ⟨key false ⟨fun h=>(by cases h),fun h=>absurd h.2.2.2 heq⟩,?_⟩
      change Aat [123,125] _ _ _; exact LZ (by simp [get]) (LZ (by simp [get]) O1)
   ·rw [hr.2 hT]
    cases ok1<;>cases ok2
    all_goals
     simp -dsimp (disch:=first | assumption | omega | (simp only [Aa];try omega)) only [↓AB,Aj,AA,Az,eq_self,Nat.reduceEqDiff,Nat.reduceMod,↓reduceIte,Nat.reduceAdd,reduceCtorEq,hpsl,R4.c,R4.p,R4.z,List.getElem?_set_self,↓IY,↓Dk]
     refine ⟨key false ⟨fun h=>(by cases h),fun h=>absurd h.2.2.1 hT⟩,?_⟩
     change Aat [123,125] _ _ _; exact LZ (by simp [get]) (LZ (by simp [get]) O1)
end
section
open Go.RowKit
variable [Cc] [AX] [Ba] [Bd] [GH] [BI]
def Bro (s:List UInt8) (r:TV):Prop:=(∀ t,ACZ t→tgB t=s→r = .tup [tgT t,tb true])∧((∀ t,ACZ t→tgB t≠s)→∃ q,q.id.length=20∧r = .tup [tgT q,tb false])
set_option maxHeartbeats 1000000 in
theorem AzK (s:List UInt8) (hs:s.length≤1000000):CE Tryz.prog 40 [slB s] (Bro s):=by
 refine BD.toPureV (Avl (by simp) ?_)
 have m1:=V6 MB s
 have m2:=V6 AbW (tr1 s)
 have m3:=V6 AyJ (tr2 s)
 have m4:=V6 LD (tr3 s)
 have l1:=Ate s MB hs (by decide) (by decide)
 have l2:=Ate (tr1 s) AbW (by unfold tr1; omega) (by decide) (by decide)
 have l3:=Ate (tr2 s) AyJ (by unfold tr2 tr1 at *; omega) (by decide) (by decide)
 have l4:=Ate (tr3 s) LD (by unfold tr3 tr2 tr1 at *; omega) (by decide) (by decide)
 have hpr:=Avn (tv1 s) (by unfold tv1; omega)
 have hrp:=Aky (tv4 s) (by unfold tv4 tr3 tr2 tr1 at *; omega)
 simp -dsimp (disch:=first | assumption | omega | (simp only [Aa];try omega)) only [↓AB,Aj,AA,Az,eq_self,Nat.reduceEqDiff,↓reduceIte,reduceCtorEq,↓Aun,↓AmV,↓Amt,↓Al0]
 refine l1.calls rfl fun r hr => ?_
 subst hr
 simp -dsimp (disch:=first | assumption | omega | (simp only [Aa];try omega)) only [↓AB,Aj,AA,Az,eq_self,Nat.reduceEqDiff,↓reduceIte,reduceCtorEq,↓Amj]
 refine l2.calls rfl fun r hr => ?_
 subst hr
 simp -dsimp (disch:=first | assumption | omega | (simp only [Aa];try omega)) only [↓AB,Aj,AA,Az,eq_self,Nat.reduceEqDiff,↓reduceIte,reduceCtorEq,↓AmC]
 refine l3.calls rfl fun r hr => ?_
 subst hr
 simp -dsimp (disch:=first | assumption | omega | (simp only [Aa];try omega)) only [↓AB,Aj,AA,Az,eq_self,Nat.reduceEqDiff,↓reduceIte,reduceCtorEq,↓Al9]
 refine l4.calls rfl fun r hr => ?_
 subst hr
 simp -dsimp (disch:=first | assumption | omega | (simp only [Aa];try omega)) only [↓AB,Aj,AA,Az,eq_self,Nat.reduceEqDiff,↓reduceIte,reduceCtorEq,↓Ame]
 refine hpr.calls rfl fun r hr => ?_
 subst hr
 simp -dsimp (disch:=first | assumption | omega | (simp only [Aa];try omega)) only [↓AB,Aj,AA,Az,eq_self,Nat.reduceEqDiff,↓reduceIte,Nat.reduceAdd,reduceCtorEq,↓ApD]
 have no:(ADv s=true∨FT (tv1 s)=false∨¬ ∃ m,tr4 s=10::m)→Bro s (.tup [tgT ACi,tb false]):=fun h=>by
  refine ⟨fun t ht e => ?_,fun _=>⟨ACi,rfl,rfl⟩⟩
  exfalso
  obtain ⟨id,k,n,p,m⟩:=t
  obtain ⟨h20,hk,hp,hn,hm⟩:=ht
  subst e
  unfold tgB at h
  simp only at *
  cases hkk:EK k with
  | none=>exact absurd hkk hk
  | some kn =>
   rw [hkk] at h
   simp only [Option.getD_some] at h
   obtain ⟨c1,c2,c3,c4,c5,c6⟩:=Bj8 (m:=m) (XU id) (AsP hkk) (Ass hn) (Ago hp)
   rw [c1,c2,Awa h20,c6] at h
   rcases h with h | h | h
   ·cases h
   ·cases h
   ·exact h ⟨m,rfl⟩
 have hbd:ADv s=(mb MB s || mb AbW (tr1 s) || mb AyJ (tr2 s) || mb LD (tr3 s)):=rfl
 have htr:mr LD (tr3 s)=tr4 s:=rfl
 by_cases hgo:ADv s=false∧FT (tv1 s)=true∧∃ m,tr4 s=10::m
 case neg =>
  have no':=no (by
   by_cases a:ADv s=true
   ·exact .inl a
   ·by_cases b:FT (tv1 s)=false
    ·exact .inr (.inl b)
    ·exact .inr (.inr fun c=>hgo ⟨by simpa using a,by simpa using b,c⟩))
  cases b1:mb MB s<;>cases b2:mb AbW (tr1 s)<;>cases b3:mb AyJ (tr2 s)<;>cases b4:mb LD (tr3 s)<;>cases b5:FT (tv1 s)
  case false.false.false.false.true =>
   have hno:¬ ∃ m,tr4 s=10::m:=fun h=>hgo ⟨by rw [hbd,b1,b2,b3,b4]; rfl,b5,h⟩
   cases ht:tr4 s with
   | nil =>
    simp -dsimp (disch:=first | assumption | omega | (simp only [Aa];try omega)) only [↓AB,Aj,AA,Az,eq_self,Nat.reduceLT,Nat.reduceEqDiff,↓reduceIte,Nat.reduceAdd,reduceCtorEq,↓Gg,htr,ht,A8]
    exact no'
   | cons c m =>
    have hc:¬ c.toNat=10:=fun e=>hno ⟨m,by rw [ht,show c=10 from UInt8.toNat_inj.1 e]⟩
    simp -dsimp (disch:=first | assumption | omega | (simp only [Aa];try omega)) only [↓AB,Aj,AA,Az,eq_self,Nat.reduceEqDiff,↓reduceIte,Nat.reduceAdd,reduceCtorEq,↓Gg,htr,ht,A8,hc]
    exact no'
  all_goals
   simp -dsimp (disch:=first | assumption | omega | (simp only [Aa];try omega)) only [↓AB,Aj,AA,Az,eq_self,Nat.reduceEqDiff,↓reduceIte,Nat.reduceAdd,reduceCtorEq,↓Gg]
   exact no'
 obtain ⟨g1,g2,m,g3⟩:=hgo
 have g1':=g1
 rw [hbd] at g1'
 simp only [Bool.or_eq_false_iff] at g1'
 obtain ⟨⟨⟨b1,b2⟩,b3⟩,b4⟩:=g1'
 have hsz:s=AAM (tv1 s) (tv2 s) (tv3 s) (tv4 s) m:=BpA g1 g3
 have hmr:m.length≤s.length:=by
  have:=congrArg List.length hsz
  simp [AAM] at this
  omega
 simp -dsimp (disch:=first | assumption | omega | (simp only [Aa];try omega)) only [↓AB,Aj,AA,Az,eq_self,Nat.reduceEqDiff,UInt8.reduceToNat,↓reduceIte,reduceCtorEq,b1,b2,b3,b4,g2,htr,g3,A8,↓ApN,↓Apd]
 refine FU (fun q e H=>∃ (k:Nat) (kf:Int),q=5 - k∧1≤k∧k≤5∧((kf=0∧∀ j:Int,j<k→EK j≠some (tv2 s))∨(EK kf=some (tv2 s)∧kf<k))
   ∧ e=[(0,slB s),(2,.op 0 0 []),(4,.op 1 0 []),(5,ts (10::m)),(8,ts (tv2 s)),(10,ts (tv3 s)),(12,ts (tv4 s)),(16,i64 (k:Int))]
   ∧ H=[.obj 0 (tgT ACi),.obj 0 (tgT ⟨BC (tv1 s),kf,[],⟨[],[],0,0⟩,[]⟩),.obj 0 (.arr 20 1 ((BC (tv1 s)).map by8))]) 4 ?_ ?_
 ·refine ⟨1,0,rfl,by omega,by omega,.inl ⟨rfl,fun j hj h => ?_⟩,rfl,rfl⟩
  have:=Yo h
  omega
 ·rintro q e H ⟨k,kf,rfl,hk1,hk5,hkf,rfl,rfl⟩
  by_cases h4:k≤4
  ·have hnm:=BqG (k:Int)
   obtain ⟨kn,hkn,hne⟩:∃ kn,EK (k:Int)=some kn∧kn≠[]:=by
    rcases (by omega:k=1∨k=2∨k=3∨k=4) with rfl | rfl | rfl | rfl<;>exact ⟨_,rfl,by decide⟩
   rw [hkn] at hnm
   simp only [Option.getD_some] at hnm
   simp -dsimp (disch:=first | assumption | omega | (simp only [Aa];try omega)) only [↓AB,Aj,AA,Az,eq_self,Nat.reduceEqDiff,↓reduceIte,reduceCtorEq,↓Aad]
   refine hnm.calls rfl fun r hr => ?_
   subst hr
   by_cases he:kn=tv2 s
   ·simp -dsimp (disch:=first | assumption | omega | (simp only [Aa];try omega)) only [↓AB,Aj,AA,Az,eq_self,Nat.reduceEqDiff,↓reduceIte,Nat.reduceAdd,reduceCtorEq,he]
    exact BQ (5 - (k+1)) (by omega) (by simp) ⟨k+1,(k:Int),rfl,by omega,by omega,.inr ⟨by rw [hkn,he],by omega⟩,rfl,rfl⟩
   ·simp -dsimp (disch:=first | assumption | omega | (simp only [Aa];try omega)) only [↓AB,Aj,AA,Az,eq_self,Nat.reduceEqDiff,↓reduceIte,Nat.reduceAdd,reduceCtorEq,he]
    refine BQ (5 - (k+1)) (by omega) (by simp) ⟨k+1,kf,rfl,by omega,by omega,?_,rfl,rfl⟩
    rcases hkf with ⟨h1,h2⟩ | ⟨h1,h2⟩
    ·refine .inl ⟨h1,fun j hj h => ?_⟩
     by_cases hjk:j=k
     ·subst hjk; rw [hkn] at h; exact he (Option.some.inj h)
     ·exact h2 j (by omega) h
    ·exact .inr ⟨h1,by omega⟩
  ·have hk:k=5:=by omega
   subst hk
   have hkf2:(kf=0∧∀ j:Int,EK j≠some (tv2 s))∨EK kf=some (tv2 s):=by
    rcases hkf with ⟨h1,h2⟩ | ⟨h1,h2⟩
    ·refine .inl ⟨h1,fun j h=>h2 j ?_ h⟩
     have:=Yo h
     omega
    ·exact .inr h1
   clear hkf
   simp -dsimp (disch:=first | assumption | omega | (simp only [Aa];try omega)) only [↓AB,Aj,AA,Az,eq_self,Nat.reduceEqDiff,↓reduceIte,Nat.reduceAdd,reduceCtorEq,Nat.reduceLeDiff,↓Aad,↓Apq,↓AoL]
   refine hrp.calls rfl fun r hr => ?_
   obtain ⟨q,ok,rfl,hfq,hq1,hq2⟩:∃ (q:Per) (ok:Bool),r = .tup [OL q,tb ok]∧Qq q∧(ok=true→EW q∧I8 q=tv4 s)∧(ok=false→∀ p,EW p→I8 p≠tv4 s):=by
    by_cases h:∃ p,EW p∧I8 p=tv4 s
    ·obtain ⟨p,hp,e⟩:=h
     refine ⟨p,true,hr.1 p hp e,?_,fun _=>⟨hp,e⟩,fun h=>(by cases h)⟩
     obtain ⟨_,_,q1,q2,q3,q4⟩:=hp
     exact ⟨⟨by omega,by omega⟩,by omega,by omega⟩
    ·have h':∀ p,EW p→I8 p≠tv4 s:=fun p hp e=>h ⟨p,hp,e⟩
     obtain ⟨q,hfq,hq⟩:=hr.2 h'
     exact ⟨q,false,hq,hfq,fun h=>(by cases h),fun _=>h'⟩
   have hkb : -9223372036854775808≤kf∧kf≤9223372036854775807:=by
    rcases hkf2 with ⟨h,_⟩ | h
    ·omega
    ·have:=Yo h; omega
   have hfit:Bpj ⟨BC (tv1 s),kf,tv3 s,q,m⟩:=⟨Ew,hkb,hfq,by show (tv3 s).length≤1000000; unfold tv3 tr2 tr1 at *; omega⟩
   simp -dsimp (disch:=first | assumption | omega | (simp only [Aa];try omega)) only [↓AB,Aj,AA,Az,eq_self,Nat.reduceEqDiff,↓reduceIte,Nat.reduceAdd,reduceCtorEq,Nat.reduceLeDiff,A8,↓Ao1,↓AoK]
   refine (AEf ⟨BC (tv1 s),kf,tv3 s,q,m⟩ hfit).lends (args':=[tgT ⟨BC (tv1 s),kf,tv3 s,q,m⟩]) (by simp -dsimp (disch:=first | assumption | omega | (simp only [Aa];try omega)) only [AA,Az,eq_self]) fun r hr => ?_
   have key:∀ t,ACZ t→tgB t=s→t=⟨BC (tv1 s),kf,tv3 s,q,m⟩∧ok=true:=by
    rintro ⟨id,k,n,p,m'⟩ ⟨h20,hk,hp,hn,hm⟩ e
    unfold tgB at e
    simp only at *
    cases hkk:EK k with
    | none=>exact absurd hkk hk
    | some kn =>
     rw [hkk] at e
     simp only [Option.getD_some] at e
     obtain ⟨c1,c2,c3,c4,c5,c6⟩:=Bj8 (m:=m') (XU id) (AsP hkk) (Ass hn) (Ago hp)
     rw [e] at c1 c2 c3 c4 c5 c6
     have hok:ok=true:=by
      cases ok with
      | true=>rfl
      | false=>exact absurd c5.symm (hq2 rfl p hp)
     have hkf3:k=kf:=by
      rcases hkf2 with ⟨_,h⟩ | h
      ·exact absurd (by rw [c3]; exact hkk) (h k)
      ·rw [c3] at h; exact AzL hkk h
     have hmm:m'=m:=by rw [g3] at c6; exact (List.cons.inj c6).2.symm
     refine ⟨?_,hok⟩
     rw [c2,c4,AlP h20,hkf3,hmm,AuF hp (hq1 hok).1 ((hq1 hok).2.trans c5).symm]
   generalize hTT:(⟨BC (tv1 s),kf,tv3 s,q,m⟩:Bl7)=T at *
   have fin:∀ β:Bool,(β=true↔ok=true∧ACZ T∧tgB T=s)→Bro s (.tup [tgT T,tb β]):=fun β hβ=>by
    refine ⟨fun t ht e => ?_,fun h=>⟨T,by rw [←hTT]; exact Ew,?_⟩⟩
    ·obtain ⟨rfl,ho⟩:=key t ht e
     rw [hβ.2 ⟨ho,ht,e⟩]
    ·cases β with
     | false=>rfl
     | true=>exact absurd (hβ.1 rfl).2.2 (h T (hβ.1 rfl).2.1)
   rw [←hTT] at fin hr
   rw [hTT] at hr
   have hw0:CG (tgT ACi)=27:=rfl
   have hw1:tgT ACi = .agg [.arr 20 1 ((zer 20).map by8),i64 0,ts [],.agg [ts [],ts [],i64 0,i64 0],ts []]:=rfl
   rw [hw1]
   have hzl:((zer 20).map by8).length=20:=rfl
   have hpl:((BC (tv1 s)).map by8).length=20:=by rw [List.length_map]; exact Ew
   clear hrp hpr l1 l2 l3 l4 no key
   by_cases hT:ACZ T
   ·rw [hr.1 hT]
    have hun:∀ l:List UInt8,(l.map by8).map ApP=l:=fun l=>AuL
    by_cases heq:tgB T=s
    ·cases ok with
     | false =>
      simp -dsimp (disch:=first | assumption | omega | (simp only [Aa];try omega)) only [↓AB,Aj,AA,Az,eq_self,Nat.reduceEqDiff,Nat.reduceMod,↓reduceIte,Nat.reduceAdd,reduceCtorEq,↓IP,↓Gg]
      refine ⟨fin false ⟨fun h=>(by cases h),fun h=>(by cases h.1)⟩,?_⟩
      change Aat [114,116] _ _ _; exact LZ (by simp [get]) (LZ (by simp [get]) O1)
     | true =>
      simp -dsimp (disch:=first | assumption | omega | (simp only [Aa];try omega)) only [↓AB,Aj,AA,Az,eq_self,Nat.reduceEqDiff,Nat.reduceMod,↓reduceIte,Nat.reduceAdd,reduceCtorEq,↓IP,↓Gg,hun,heq]
      refine ⟨fin true ⟨fun _=>⟨rfl,by rw [hTT]; exact hT,by rw [hTT]; exact heq⟩,fun _=>rfl⟩,?_⟩
      change Aat [114,116] _ _ _; exact LZ (by simp [get]) (LZ (by simp [get]) O1)
    ·cases ok with
     | false =>
      simp -dsimp (disch:=first | assumption | omega | (simp only [Aa];try omega)) only [↓AB,Aj,AA,Az,eq_self,Nat.reduceEqDiff,Nat.reduceMod,↓reduceIte,Nat.reduceAdd,reduceCtorEq,↓IP,↓Gg]
      refine ⟨fin false ⟨fun h=>(by cases h),fun h=>(by cases h.1)⟩,?_⟩
      change Aat [114,116] _ _ _; exact LZ (by simp [get]) (LZ (by simp [get]) O1)
     | true =>
      simp -dsimp (disch:=first | assumption | omega | (simp only [Aa];try omega)) only [↓AB,Aj,AA,Az,eq_self,Nat.reduceEqDiff,Nat.reduceMod,↓reduceIte,Nat.reduceAdd,reduceCtorEq,↓IP,↓Gg,hun,heq]
      refine ⟨fin false ⟨fun h=>(by cases h),fun h=>absurd h.2.2 (by rw [hTT]; exact heq)⟩,?_⟩
      change Aat [114,116] _ _ _; exact LZ (by simp [get]) (LZ (by simp [get]) O1)
   ·rw [hr.2 hT]
    cases ok
    all_goals
     simp -dsimp (disch:=first | assumption | omega | (simp only [Aa];try omega)) only [↓AB,Aj,AA,Az,eq_self,Nat.reduceEqDiff,Nat.reduceMod,↓reduceIte,Nat.reduceAdd,reduceCtorEq,↓IP,↓Gg]
     refine ⟨fin false ⟨fun h=>(by cases h),fun h=>absurd h.2.1 (by rw [hTT]; exact hT)⟩,?_⟩
     change Aat [114,116] _ _ _; exact LZ (by simp [get]) (LZ (by simp [get]) O1)
end
section
open Go.RowKit
variable [Cc] [AX] [Ba] [Bd] [GH] [BI]
def Ati (no:Nat→TV) (yes:List UInt8→TV) (k:Int) (d:List UInt8) (r:TV):Prop:=(∀ b,AyR k d = .ok b→r=yes b)∧(∀ c,AyR k d = .error c→r=no c)
theorem Ati.ok {no:Nat→TV} {yes:List UInt8→TV} {k:Int} {d b:List UInt8} (h:AyR k d = .ok b):Ati no yes k d (yes b):=⟨fun x hx=>(by rw [h] at hx; cases hx; rfl),fun c hc=>(by rw [h] at hc; cases hc)⟩
theorem Ati.err {no:Nat→TV} {yes:List UInt8→TV} {k:Int} {d:List UInt8} {c:Nat} (h:AyR k d = .error c):Ati no yes k d (no c):=⟨fun x hx=>(by rw [h] at hx; cases hx),fun c hc=>(by rw [h] at hc; cases hc; rfl)⟩
theorem Bm0 (k:Int) (d:List UInt8) (hd:d.length≤1000000):Sr Tryz.prog 55 [.agg [i64 k,slB d]] (Ati (fun c => .tup [.val (.slice none 0 0),i64 (c:Int)]) (fun b => .tup [slB b,i64 ((0:Nat):Int)]) k d):=by
 refine BD.toFreshV (AwL (by simp) ?_)
 simp -dsimp (disch:=first | assumption | omega | (simp only [Aa];try omega)) only [↓AB,Aj,AA,Az,eq_self,Nat.reduceEqDiff,↓reduceIte,↓Ave,↓AqU]
 refine (BqG k).calls rfl fun r hr => ?_
 subst hr
 cases hk:EK k with
 | none =>
  have he:AyR k d = .error 20:=by unfold AyR; rw [hk]
  have:=Ati.err (no:=fun c => .tup [.val (.slice none 0 0),i64 (c:Int)]) (yes:=fun b => .tup [slB b,i64 ((0:Nat):Int)]) he
  simp -dsimp (disch:=first | assumption | omega | (simp only [Aa];try omega)) only [↓AB,Aj,AA,Az,eq_self,Nat.reduceEqDiff,↓reduceIte,↓Qo,↓ZZ]
  exact this
 | some n =>
  have hn6:=(Yo hk).2.2
  have hne:n≠[]:=by
   rcases EX.1 hk with ⟨_,rfl⟩ | ⟨_,rfl⟩ | ⟨_,rfl⟩ | ⟨_,rfl⟩<;>simp
  by_cases hl:d.length≤100000
  case neg =>
   have he:AyR k d = .error 11:=by unfold AyR; rw [hk]; simp only; rw [if_neg hl]
   have:=Ati.err (no:=fun c => .tup [.val (.slice none 0 0),i64 (c:Int)]) (yes:=fun b => .tup [slB b,i64 ((0:Nat):Int)]) he
   simp -dsimp (disch:=first | assumption | omega | (simp only [Aa];try omega)) only [↓AB,Aj,AA,Az,eq_self,Nat.reduceEqDiff,↓reduceIte,Nat.reduceAdd,↓Qo,↓AaW,↓ZZ,hne]
   exact this
  have he:AyR k d = .ok (n++32::Lib.decDigits d.length++0::d):=by unfold AyR; rw [hk]; simp only; rw [if_pos hl]
  have htn:∀ x:List UInt8,(x.map by8).take x.length=x.map by8:=fun x=>List.take_of_length_le (by simp)
  have ht1:∀ y:TV,List.take 1 [y]=[y]:=fun y=>rfl
  have hd20:=ADj d.length
  simp -dsimp (disch:=first | assumption | omega | (simp only [Aa];try omega)) only [↓AB,Aj,AA,Az,eq_self,Nat.reduceEqDiff,↓reduceIte,Nat.reduceAdd,Nat.reduceLeDiff,↓Qo,↓AaW,↓Ar3,↓Ari,hne,A8,htn,↓AqK,ACs]
  have e1:n.map by8++[TV.val (.int .u8 ((32:Nat):Int))]=(n++[32]).map by8:=by simp [by8]
  have e2:n.length+1=(n++[32]).length:=by simp
  rw [e1,e2]
  have hn7:(n++[(32:UInt8)]).length≤7:=by simp; omega
  have hb':n++32::Lib.decDigits d.length++0::d=(n++[32])++Lib.decDigits d.length++[0]++d:=by simp
  rw [hb'] at he
  generalize n++[(32:UInt8)]=L at *
  simp -dsimp (disch:=first | assumption | omega | (simp only [Aa];try omega)) only [↓AB,Aj,AA,Az,eq_self,Nat.reduceEqDiff,↓reduceIte,Nat.reduceAdd,↓Aqv]
  refine (AzM d.length (by omega)).calls rfl fun r hr => ?_
  subst hr
  have e3:L.map by8++(Lib.decDigits d.length).map by8=(L++Lib.decDigits d.length).map by8:=by simp
  have e4:L.length+(Lib.decDigits d.length).length=(L++Lib.decDigits d.length).length:=by simp
  have hMl:(L++Lib.decDigits d.length).length≤200000:=by rw [List.length_append]; omega
  simp -dsimp (disch:=first | assumption | omega | (simp only [Aa];try omega)) only [↓AB,Aj,AA,Az,eq_self,Nat.reduceEqDiff,↓reduceIte,Nat.reduceAdd,Nat.reduceLeDiff,A8,htn]
  rw [e3,e4]
  generalize L++Lib.decDigits d.length=M at *
  have e5:M.map by8++[TV.val (.int .u8 ((0:Nat):Int))]=(M++[0]).map by8:=by simp [by8]
  have e6:M.length+1=(M++[(0:UInt8)]).length:=by simp
  have hN:(M++[(0:UInt8)]).length≤200001:=by rw [←e6]; omega
  simp -dsimp (disch:=first | assumption | omega | (simp only [Aa];try omega)) only [↓AB,Aj,AA,Az,eq_self,Nat.reduceEqDiff,↓reduceIte,Nat.reduceAdd,Nat.reduceLeDiff,htn,ACs]
  rw [e5,e6]
  generalize M++[(0:UInt8)]=M2 at *
  have:=Ati.ok (no:=fun c => .tup [.val (.slice none 0 0),i64 (c:Int)]) (yes:=fun b => .tup [slB b,i64 ((0:Nat):Int)]) he
  have e7:M2.map by8++d.map by8=(M2++d).map by8:=by simp
  have e8:M2.length+d.length=(M2++d).length:=by simp
  simp -dsimp (disch:=first | assumption | omega | (simp only [Aa];try omega)) only [htn]
  rw [e7,e8]
  generalize M2++d=X at *
  simp -dsimp (disch:=first | assumption | omega | (simp only [Aa];try omega)) only [↓AB,Aj,AA,Az,eq_self,Nat.reduceEqDiff,↓reduceIte,↓ZZ,htn]
  exact this
end
section
open Go.RowKit
variable [Cc] [AX] [Ba] [Bd] [GH] [BI]
theorem BsD (k:Int) (d:List UInt8) (hd:d.length≤200000) {ids:List (List UInt8)} {e:Int} (h:Lnk k d ids e):Sr Tryz.prog 24 [.agg [i64 k,slB d]] (fun r=>∃ Y,LkY ids Y∧r = .tup [Y,i64 e]):=by
 refine BD.toFreshV (Ayz (by simp) ?_)
 simp -dsimp (disch:=first | assumption | omega | (simp only [Aa];try omega)) only [↓AB,Aj,AA,Az,eq_self,Nat.reduceEqDiff,↓reduceIte,Nat.reduceAdd,↓AwJ,↓Arq]
 refine (Bm0 k d (by omega)).pure.calls rfl fun r hr => ?_
 cases h with
 | kind hk =>
  rw [hr.2 20 (by unfold AyR; rw [hk])]
  simp -dsimp (disch:=first | assumption | omega | (simp only [Aa];try omega)) only [↓AB,Aj,AA,Az,eq_self,Nat.reduceEqDiff,↓reduceIte,reduceCtorEq,↓Es,↓Gs]
  exact ⟨_,.inr ⟨rfl,rfl⟩,rfl⟩
 | long hk hl =>
  obtain ⟨n,hn⟩:∃ n,EK k=some n:=by cases h:EK k with
   | none=>exact absurd h hk
   | some n=>exact ⟨n,rfl⟩
  rw [hr.2 11 (by unfold AyR; rw [hn]; simp only; rw [if_neg (by omega)])]
  simp -dsimp (disch:=first | assumption | omega | (simp only [Aa];try omega)) only [↓AB,Aj,AA,Az,eq_self,Nat.reduceEqDiff,↓reduceIte,reduceCtorEq,↓Es,↓Gs]
  exact ⟨_,.inr ⟨rfl,rfl⟩,rfl⟩
 | blob hk hl =>
  subst hk
  rw [hr.1 _ (by unfold AyR; rw [show EK 3=some [98,108,111,98] from rfl]; simp only; rw [if_pos hl])]
  simp -dsimp (disch:=first | assumption | omega | (simp only [Aa];try omega)) only [↓AB,Aj,AA,Az,eq_self,Nat.reduceEqDiff,↓reduceIte,↓Es,↓F5,↓FZ,↓F8,↓F7,↓Jv,↓Jz,↓P8,↓TL,↓MG,↓Gs]
  exact ⟨_,.inr ⟨rfl,rfl⟩,rfl⟩
 | tag t hk hl a b =>
  subst hk
  rw [hr.1 _ (by unfold AyR; rw [show EK 4=some [116,97,103] from rfl]; simp only; rw [if_pos hl])]
  have h20:(t.id.map by8).length=20:=by rw [List.length_map]; exact a.1
  simp -dsimp (disch:=first | assumption | omega | (simp only [Aa];try omega)) only [↓AB,Aj,AA,Az,eq_self,Nat.reduceEqDiff,↓reduceIte,Nat.reduceAdd,↓Es,↓F5,↓FZ,↓F8,↓F7,↓Jv,↓Jz,↓P8,↓TL,↓Aeo]
  refine (AzK d (by omega)).calls rfl fun r hr => ?_
  rw [hr.1 t a b]
  simp -dsimp (disch:=first | assumption | omega | (simp only [Aa];try omega)) only [↓AB,Aj,AA,Az,eq_self,Nat.reduceEqDiff,Nat.reduceMul,↓reduceIte,Nat.reduceAdd,Nat.reduceLeDiff,Atf,↓MG,↓Gs]
  rw [if_pos (by have:=Abd [t.id]; exact this)]
  exact ⟨_,.inl rfl,rfl⟩
 | tagN hk hl a =>
  subst hk
  rw [hr.1 _ (by unfold AyR; rw [show EK 4=some [116,97,103] from rfl]; simp only; rw [if_pos hl])]
  simp -dsimp (disch:=first | assumption | omega | (simp only [Aa];try omega)) only [↓AB,Aj,AA,Az,eq_self,Nat.reduceEqDiff,↓reduceIte,Nat.reduceAdd,↓Es,↓F5,↓FZ,↓F8,↓F7,↓Jv,↓Jz,↓P8,↓TL,↓Aeo]
  refine (AzK d (by omega)).calls rfl fun r hr => ?_
  obtain ⟨q,hq20,hq⟩:=hr.2 a
  rw [hq]
  have h20:(q.id.map by8).length=20:=by rw [List.length_map]; exact hq20
  simp -dsimp (disch:=first | assumption | omega | (simp only [Aa];try omega)) only [↓AB,Aj,AA,Az,eq_self,Nat.reduceEqDiff,↓reduceIte,Nat.reduceAdd,↓Gs]
  exact ⟨_,.inr ⟨rfl,rfl⟩,rfl⟩
 | com c hk hl a b =>
  subst hk
  rw [hr.1 _ (by unfold AyR; rw [show EK 1=some [99,111,109,109,105,116] from rfl]; simp only; rw [if_pos hl])]
  have h20:(c.tree.map by8).length=20:=by rw [List.length_map]; exact a.1
  have hp8:=a.2.2.1
  have hpl:(c.pars.map Lp).length=c.pars.length:=List.length_map ..
  simp -dsimp (disch:=first | assumption | omega | (simp only [Aa];try omega)) only [↓AB,Aj,AA,Az,eq_self,Nat.reduceEqDiff,↓reduceIte,Nat.reduceAdd,↓Es,↓F5,↓FZ,↓F8,↓F7,↓Jv,↓Jz,↓Aep]
  refine (AtF d (by omega)).calls rfl fun r hr => ?_
  rw [hr.1 c a b]
  simp -dsimp (disch:=first | assumption | omega | (simp only [Aa];try omega)) only [↓AB,Aj,AA,Az,eq_self,Nat.reduceEqDiff,Nat.reduceMul,↓reduceIte,Nat.reduceAdd,Nat.reduceLeDiff,Atf,hpl,↓AeD,↓MG,↓Gs]
  rw [if_pos (by have:=Abd (c.tree::c.pars); exact this)]
  exact ⟨_,.inl rfl,rfl⟩
 | comN hk hl a =>
  subst hk
  rw [hr.1 _ (by unfold AyR; rw [show EK 1=some [99,111,109,109,105,116] from rfl]; simp only; rw [if_pos hl])]
  simp -dsimp (disch:=first | assumption | omega | (simp only [Aa];try omega)) only [↓AB,Aj,AA,Az,eq_self,Nat.reduceEqDiff,↓reduceIte,Nat.reduceAdd,↓Es,↓F5,↓FZ,↓F8,↓F7,↓Jv,↓Jz,↓Aep]
  refine (AtF d (by omega)).calls rfl fun r hr => ?_
  obtain ⟨x,Y,q1,q2,m,hx,hY,hq⟩:=hr.2 a
  rw [hq]
  have hx20:(x.map by8).length=20:=by rw [List.length_map]; exact hx
  have hw:CG Y=1∧lays Y=true∧LX Y=true∧Ar6 Y=false∧Ie Y=false:=by
   rcases hY with rfl | ⟨ps,rfl⟩<;>exact ⟨rfl,rfl,rfl,rfl,rfl⟩
  obtain ⟨w1,w2,w3,w4,w5⟩:=hw
  clear hY hq hr
  simp -dsimp (disch:=first | assumption | omega | (simp only [Aa];try omega)) only [↓AB,Aj,AA,Az,eq_self,Nat.reduceEqDiff,↓reduceIte,Nat.reduceAdd,w1,↓AeD,↓Gs]
  exact ⟨_,.inr ⟨rfl,rfl⟩,rfl⟩
 | treeN hk hl a =>
  subst hk
  rw [hr.1 _ (by unfold AyR; rw [show EK 2=some [116,114,101,101] from rfl]; simp only; rw [if_pos hl])]
  simp -dsimp (disch:=first | assumption | omega | (simp only [Aa];try omega)) only [↓AB,Aj,AA,Az,eq_self,Nat.reduceEqDiff,↓reduceIte,Nat.reduceAdd,↓Es,↓F5,↓FZ,↓F8,↓F7,↓AdU]
  refine (Axz d (by omega)).pure.calls rfl fun r hr => ?_
  rw [hr.2 a]
  simp -dsimp (disch:=first | assumption | omega | (simp only [Aa];try omega)) only [↓AB,Aj,AA,Az,eq_self,Nat.reduceEqDiff,↓reduceIte,↓Adr,↓Gs]
  exact ⟨_,.inr ⟨rfl,rfl⟩,rfl⟩
 | tree l hk hl a =>
  subst hk
  rw [hr.1 _ (by unfold AyR; rw [show EK 2=some [116,114,101,101] from rfl]; simp only; rw [if_pos hl])]
  simp -dsimp (disch:=first | assumption | omega | (simp only [Aa];try omega)) only [↓AB,Aj,AA,Az,eq_self,Nat.reduceEqDiff,↓reduceIte,Nat.reduceAdd,↓Es,↓F5,↓FZ,↓F8,↓F7,↓AdU]
  refine (Axz d (by omega)).pure.calls rfl fun r hr => ?_
  have hr1:r = .tup [.sl 22 (l.map enT),tb true]:=hr.1 l a
  subst hr1
  have h20:∀ x∈l,x.id.length=20:=fun x hx=>(a.1.2.1 x hx).2.2
  have hll:l.length≤2000:=a.1.1
  clear hr a
  simp -dsimp (disch:=first | assumption | omega | (simp only [Aa];try omega)) only [↓AB,Aj,AA,Az,eq_self,Nat.reduceEqDiff,↓reduceIte,↓Adr,↓AsL,↓AsR]
  refine FU (fun q e H=>∃ (i v cp:Nat),q=l.length - i∧i≤l.length∧H[1]?=some (.obj v (.arr i 20 ((l.take i).map fun e:En=>Lp e.id)))∧e=[(6,.os 20 1 v [] 0 i cp),(7,.sl 22 (l.map enT)),(9,i64 (i:Int))]) l.length ?_ ?_
  ·exact ⟨0,0,0,rfl,Nat.zero_le _,rfl,rfl⟩
  rintro q e H ⟨i,v,cp,rfl,hi,hk,rfl⟩
  have hkl:=(List.getElem?_eq_some_iff.1 hk).1
  have hwl:((l.take i).map fun e:En=>Lp e.id).length=i:=by rw [List.length_map,List.length_take,Nat.min_eq_left hi]
  have hwt:((l.take i).map fun e:En=>Lp e.id).take i=(l.take i).map fun e:En=>Lp e.id:=List.take_of_length_le (by omega)
  by_cases hil:i<l.length
  ·have hg:l[i]?=some l[i]:=List.getElem?_eq_getElem hil
   have hx20:=h20 _ (List.mem_of_getElem? hg)
   have hsn:((l.take (i+1)).map fun e:En=>Lp e.id)=((l.take i).map fun e:En=>Lp e.id)++[Lp l[i].id]:=by rw [List.take_succ_eq_append_getElem hil,List.map_append]; rfl
   generalize l[i]=x at *
   have hx:(x.id.map by8).length=20:=by rw [List.length_map]; exact hx20
   have hA:∀ T:List Ob,(H++T)[1]?=some (.obj v (.arr i 20 ((l.take i).map fun e:En=>Lp e.id))):=fun T=>by rw [List.getElem?_append_left hkl]; exact hk
   simp -dsimp (disch:=first | assumption | omega | (simp only [Aa];try omega)) only [↓AB,Aj,AA,Az,eq_self,Nat.reduceEqDiff,↓reduceIte,Nat.reduceAdd,Nat.reduceLeDiff,hg,hA,hwl,Atf,↓AfU]
   refine BQ (l.length - (i+1)) (by omega) (by simp; omega) ⟨i+1,v+1,i+1,rfl,by omega,?_,rfl⟩
   rw [List.getElem?_append_left (by simp; omega),List.getElem?_set_self (by omega),hsn]
  ·have hi2:i=l.length:=by omega
   have htt:l.take i=l:=List.take_of_length_le (by omega)
   rw [htt] at hwl hwt hk
   simp -dsimp (disch:=first | assumption | omega | (simp only [Aa];try omega)) only [↓AB,Aj,AA,Az,eq_self,Nat.reduceEqDiff,↓reduceIte,hk,hwl,↓AfU,↓MG,↓Gs]
   have hm:(l.map fun e:En=>Lp e.id)=(l.map (·.id)).map Lp:=by rw [List.map_map]; rfl
   rw [hm,if_pos (Abd _)]
   exact ⟨_,.inl rfl,rfl⟩
theorem Bqe (k:Int) (d:List UInt8) (hd:d.length≤200000) {ids:List (List UInt8)} {e:Int} (h:Lnk k d ids e):CE Tryz.prog 24 [.agg [i64 k,slB d]] (fun r=>r = .tup [.sl 20 (ids.map Lp),i64 e]) :=
 (BsD k d hd h).pure.conv fun x hx=>Bk1 hx
end
section
open Go.RowKit
variable [Cc] [AX] [Ba] [Bd] [GH] [BI] [GK]
theorem BrG (k:Int) (d:List UInt8):CE Tryz.prog 23 [.agg [i64 k,slB d]] (fun r=>r = .agg [i64 k,slB d]):=by
 refine BD.toPureV (AwE (by simp) ?_)
 simp -dsimp (disch:=first | assumption | omega | (simp only [Aa];try omega)) only [↓AB,Aj,AA,Az,eq_self,Nat.reduceEqDiff,↓reduceIte,Nat.reduceAdd,↓AuQ,↓Avh]
theorem BnD (k:Int) (d:List UInt8) (h1 : -9223372036854775808≤k) (h2:k≤9223372036854775807) (hb:d.length≤140737488351232):CE Tryz.prog 6 [.agg [i64 k,slB d]] (fun r=>r=tb true):=by
 refine BD.toPureV (Ape (by simp) ?_)
 by_cases hd:d.length≤120000
 case neg=>simp -dsimp (disch:=first | assumption | omega | (simp only [Aa];try omega)) only [↓AB,Aj,AA,Az,eq_self,Nat.reduceEqDiff,↓reduceIte,Nat.reduceAdd,↓KJ,↓GN,↓Nz]
 obtain ⟨ids,e,hl⟩:=Lnk.some k d
 have hc:=Bu6 k d h1 h2 (by omega) hl
 have hp:=BpN k d h1 h2 (by omega) hl
 have hr':=Bqe k d (by omega) hl
 have hil:ids.length≤1000000:=by
  cases hl with
  | tree l _ _ a=>have:=a.1.1; simp; omega
  | com c _ _ a _=>have:=a.2.2.1; simp; omega
  | _=>simp
 have h20:∀ x∈ids,x.length=20:=by
  cases hl with
  | tree l _ _ a=>intro x hx; obtain ⟨y,hy,rfl⟩:=List.mem_map.1 hx; exact (a.1.2.1 y hy).2.2
  | com c _ _ a _ =>
   intro x hx
   rcases List.mem_cons.1 hx with rfl | hx
   ·exact a.1
   ·exact a.2.1 x hx
  | tag t _ _ a _=>intro x hx; rw [List.mem_singleton] at hx; subst hx; exact a.1
  | _=>intro x hx; cases hx
 have htell:CE Tryz.prog 8 [BpJ e] (fun x=>x=i64 e):=by
  unfold BpJ
  by_cases he:e=0
  ·subst he; exact Byb
  ·rw [if_neg he]; exact Bzy
 have main:∀ β:Bool,vwp Tryz.prog Mc (Awf Qp fun x H'=>EC (Ox H' (ABT H' 2) x) fun r=>r=tb true) [(1,.op 0 0 []),(24,tb β)] [.obj 0 (.agg [i64 k,slB d])]:=fun β=>by
  obtain ⟨E,hE,hEq⟩:∃ E,BpJ e=E∧(E = .val .nilIface∨E=eno e):=⟨_,rfl,by unfold BpJ; by_cases he:e=0<;>simp [he]⟩
  rw [hE] at hc hp htell
  have hpl:(ids.map Lp).length=ids.length:=List.length_map ..
  rcases hEq with rfl | rfl
  all_goals
   simp -dsimp (disch:=first | assumption | omega | (simp only [Aa];try omega)) only [↓AB,Aj,AA,Az,eq_self,↓reduceIte,Nat.reduceAdd,↓AfY]
   refine hc.calls rfl fun r hr => ?_
   subst hr
   simp -dsimp (disch:=first | assumption | omega | (simp only [Aa];try omega)) only [↓AB,Aj,AA,Az,eq_self,Nat.reduceEqDiff,↓reduceIte,Nat.reduceAdd,↓Agn]
   refine hp.calls rfl fun r hr => ?_
   subst hr
   simp -dsimp (disch:=first | assumption | omega | (simp only [Aa];try omega)) only [↓AB,Aj,AA,Az,eq_self,Nat.reduceEqDiff,↓reduceIte,Nat.reduceAdd,↓AgT]
   refine (BrG k d).calls rfl fun r hr => ?_
   subst hr
   simp -dsimp (disch:=first | assumption | omega | (simp only [Aa];try omega)) only [↓AB,Aj,AA,Az,eq_self,Nat.reduceEqDiff,↓reduceIte,Nat.reduceAdd,↓Ag8]
   refine hr'.calls rfl fun r hr => ?_
   subst hr
   simp -dsimp (disch:=first | assumption | omega | (simp only [Aa];try omega)) only [↓AB,Aj,AA,Az,eq_self,Nat.reduceEqDiff,↓reduceIte,↓Ahj]
   refine htell.calls rfl fun r hr => ?_
   subst hr
   simp -dsimp (disch:=first | assumption | omega | (simp only [Aa];try omega)) only [↓AB,Aj,AA,Az,eq_self,Nat.reduceEqDiff,↓reduceIte]
   refine htell.calls rfl fun r hr => ?_
   subst hr
   simp -dsimp (disch:=first | assumption | omega | (simp only [Aa];try omega)) only [↓AB,Aj,AA,Az,eq_self,Nat.reduceEqDiff,↓reduceIte,hpl,↓Ahc,↓Agx]
   refine FU (fun q e H=>∃ i:Nat,q=ids.length - i∧i≤ids.length∧H=[.obj 0 (.agg [i64 k,slB d]),.obj 0 (.agg [i64 k,slB d])]∧e=[(4,.sl 20 (ids.map Lp)),(7,.sl 20 (ids.map Lp)),(9,i64 (i:Int))]) ids.length ?_ ?_
   ·exact ⟨0,rfl,Nat.zero_le _,rfl,rfl⟩
   rintro q e H ⟨i,rfl,hi,rfl,rfl⟩
   by_cases hil:i<ids.length
   ·have hg:ids[i]?=some ids[i]:=List.getElem?_eq_getElem hil
    have hx20:=h20 _ (List.mem_of_getElem? hg)
    have hp20:(ids[i].map by8).length=20:=by rw [List.length_map]; exact hx20
    generalize ids[i]=p at *
    have hun:∀ l:List UInt8,(l.map by8).map ApP=l:=fun l=>AuL
    simp -dsimp (disch:=first | assumption | omega | (simp only [Aa];try omega)) only [↓AB,Aj,AA,Az,eq_self,Nat.reduceEqDiff,↓reduceIte,Nat.reduceAdd,hg,beq_self_eq_true,↓Pn,↓Agu]
    exact BQ (ids.length - (i+1)) (by omega) (by simp) ⟨i+1,rfl,by omega,rfl,rfl⟩
   ·simp -dsimp (disch:=first | assumption | omega | (simp only [Aa];try omega)) only [↓AB,Aj,AA,Az,eq_self,Nat.reduceEqDiff,↓reduceIte,↓Pn,↓Ahg,↓Nz]
 by_cases ht:k=2
 ·subst ht
  by_cases hd8:d.length≤8000
  case neg=>simp -dsimp (disch:=first | assumption | omega | (simp only [Aa];try omega)) only [↓AB,Aj,AA,Az,eq_self,Nat.reduceEqDiff,↓reduceIte,Nat.reduceAdd,↓KJ,↓GN,↓Nz]
  simp -dsimp (disch:=first | assumption | omega | (simp only [Aa];try omega)) only [↓AB,Aj,AA,Az,eq_self,Nat.reduceEqDiff,↓reduceIte,Nat.reduceAdd,↓KJ,↓GN]
  exact main _
 ·have ht':¬ k=((2:Nat):Int):=ht
  simp -dsimp (disch:=first | assumption | omega | (simp only [Aa];try omega)) only [↓AB,Aj,AA,Az,eq_self,Nat.reduceEqDiff,↓reduceIte,Nat.reduceAdd,ht',↓KJ,↓GN]
  exact main _
end
end Go.Proofs.YtliaddbbmnfioaaGreatDoor
namespace Go.Proofs.YtliaddbbmnfioaaGreatDoor.objectLinks
open Go.ChangeShapes Go.WideShapes Go.ChangeAt Go.RowKit
theorem own:ownKnob Tryz.prog.godebug=none:=by kernel_rfl
mutual
def Bql:DataW Unit→List Value
 | .lit (.int k n)=>[.int k n]
 | .lit (.string l)=>[.string ⟨l.toArray⟩]
 | .agg l=>BuF l
 | _=>[]
def BuF:List (DataW Unit)→List Value
 | []=>[]
 | d::l=>Bql d++BuF l
end
abbrev giM (t0:TypeId) (a0:Addr) (t1:TypeId) (a1:Addr) (m:Int):Cc:=⟨[(1,IE),(8,D6),(9,D5),(3,BZ),(0,D7),(5,GV.one (.iface t0 (.pointer (some a0)))),(4,GV.one (.iface t1 (.pointer (some a1)))),(2,GV.one (.int .i64 m))],by kernel_rfl⟩
theorem ArG (t0:TypeId) (a0:Addr) (t1:TypeId) (a1:Addr) (m:Int):@GK (giM t0 a0 t1 a1 m):=@GK.mk (giM t0 a0 t1 a1 m) (by kernel_rfl)
theorem Acd (t0:TypeId) (a0:Addr) (t1:TypeId) (a1:Addr) (m:Int):@JC (giM t0 a0 t1 a1 m):=@JC.mk (giM t0 a0 t1 a1 m) (by kernel_rfl)
theorem Acf (t0:TypeId) (a0:Addr) (t1:TypeId) (a1:Addr) (m:Int):@Gx (giM t0 a0 t1 a1 m):=@Gx.mk (giM t0 a0 t1 a1 m) (by kernel_rfl)
theorem U6 (t0:TypeId) (a0:Addr) (t1:TypeId) (a1:Addr) (m:Int):@AX (giM t0 a0 t1 a1 m):=@AX.mk (giM t0 a0 t1 a1 m) (by kernel_rfl)
theorem Ai5 (t0:TypeId) (a0:Addr) (t1:TypeId) (a1:Addr) (m:Int):@BI (giM t0 a0 t1 a1 m):=@BI.mk (giM t0 a0 t1 a1 m) (by kernel_rfl)
theorem ArE (t0:TypeId) (a0:Addr) (t1:TypeId) (a1:Addr) (m:Int):@Bd (giM t0 a0 t1 a1 m):=@Bd.mk (giM t0 a0 t1 a1 m) ⟨t0,a0,by kernel_rfl⟩
theorem Apz (t0:TypeId) (a0:Addr) (t1:TypeId) (a1:Addr) (m:Int):@Ba (giM t0 a0 t1 a1 m):=@Ba.mk (giM t0 a0 t1 a1 m) ⟨t1,a1,by kernel_rfl⟩
theorem et:Tryz.prog.globalNamed "errors.errorType" = some 1:=by kernel_rfl
theorem rt:(Tryz.prog.cutTypes.find? (·.1 == "internal/reflectlite.rtype")).map (·.2)=some 175:=by kernel_rfl
theorem BsW:((List.range Tryz.prog.types.size).filter fun t=>Tryz.prog.rowNamed t [101,114,114,111,114])=[31]:=by kernel_rfl
theorem AwG {W:World} (h:handlesMet Tryz.prog [("errors.errorType", Rows.laid_errors_errorType)] W):∃ t fr,W.heap[1]?=some (.cells IE.cells.toArray t fr):=by
 obtain ⟨name,u,ty,e1,e2,e3,e4,e5⟩:=h _ (List.mem_singleton.2 rfl)
 have en:name=[101,114,114,111,114]:=(Option.some.inj e1).symm
 subst en
 obtain rfl:=Option.some.inj (rt.symm.trans e2)
 have hm:ty∈(List.range Tryz.prog.types.size).filter fun t=>Tryz.prog.rowNamed t [101,114,114,111,114]:=List.mem_filter.2 ⟨List.mem_range.2 e3,e4⟩
 rw [BsW] at hm
 obtain rfl:=List.mem_singleton.1 hm
 have hh:typeHandle Tryz.prog 31 = .pointer (some ⟨10,31,none⟩):=by kernel_rfl
 rw [hh] at e5
 exact AxD et e5
def Aal:List (DataW Unit):=[.lit (.int .u8 0),.lit (.int .u8 1),.lit (.int .u8 28),.lit (.int .u8 2),.lit (.int .u8 29),.lit (.int .u8 14),.lit (.int .u8 24),.lit (.int .u8 3),.lit (.int .u8 30),.lit (.int .u8 22),.lit (.int .u8 20),.lit (.int .u8 15),.lit (.int .u8 25),.lit (.int .u8 17),.lit (.int .u8 4),.lit (.int .u8 8),.lit (.int .u8 31),.lit (.int .u8 27),.lit (.int .u8 13),.lit (.int .u8 23),.lit (.int .u8 21),.lit (.int .u8 19),.lit (.int .u8 16),.lit (.int .u8 7),.lit (.int .u8 26),.lit (.int .u8 12),.lit (.int .u8 18),.lit (.int .u8 6),.lit (.int .u8 11),.lit (.int .u8 5),.lit (.int .u8 10),.lit (.int .u8 9)]
theorem Aae {W:World} (h:laidMet Tryz.prog [("math/bits.deBruijn32tab", Rows.laid_math_bits_deBruijn32tab),("math/bits.deBruijn64tab", Rows.laid_math_bits_deBruijn64tab),("internal/strconv.uint64pow10", Rows.laid_internal_strconv_uint64pow10),("unicode/utf8.acceptRanges", Rows.laid_unicode_utf8_acceptRanges),("strconv.ErrRange", Rows.laid_strconv_ErrRange),("strconv.ErrSyntax", Rows.laid_strconv_ErrSyntax),("gitlike/object.kinds", Rows.laid_gitlike_object_kinds),("unicode/utf8.first", Rows.laid_unicode_utf8_first)] W):∃ t fr,W.heap[8]?=some (.cells D6.cells.toArray t fr) :=
 AuD (t:=(Tryz.prog.globals[8]?).elim 0 (·.type)) (e:=match Tryz.prog.underlying ((Tryz.prog.globals[8]?).elim 0 (·.type)) with | some (.array _ e)=>e | _=>0) (n:=D6.cells.length) h (List.mem_of_getElem? (i:=0) (show [("math/bits.deBruijn32tab", Rows.laid_math_bits_deBruijn32tab),("math/bits.deBruijn64tab", Rows.laid_math_bits_deBruijn64tab),("internal/strconv.uint64pow10", Rows.laid_internal_strconv_uint64pow10),("unicode/utf8.acceptRanges", Rows.laid_unicode_utf8_acceptRanges),("strconv.ErrRange", Rows.laid_strconv_ErrRange),("strconv.ErrSyntax", Rows.laid_strconv_ErrSyntax),("gitlike/object.kinds", Rows.laid_gitlike_object_kinds),("unicode/utf8.first", Rows.laid_unicode_utf8_first)][0]?=some ("math/bits.deBruijn32tab", DataW.agg Aal) by kernel_rfl)) (by kernel_rfl) (by kernel_rfl) (by kernel_rfl) (by kernel_rfl) (by kernel_rfl) (by kernel_rfl) (by kernel_rfl)
def Aag:List (DataW Unit):=[.lit (.int .u8 0),.lit (.int .u8 1),.lit (.int .u8 56),.lit (.int .u8 2),.lit (.int .u8 57),.lit (.int .u8 49),.lit (.int .u8 28),.lit (.int .u8 3),.lit (.int .u8 61),.lit (.int .u8 58),.lit (.int .u8 42),.lit (.int .u8 50),.lit (.int .u8 38),.lit (.int .u8 29),.lit (.int .u8 17),.lit (.int .u8 4),.lit (.int .u8 62),.lit (.int .u8 47),.lit (.int .u8 59),.lit (.int .u8 36),.lit (.int .u8 45),.lit (.int .u8 43),.lit (.int .u8 51),.lit (.int .u8 22),.lit (.int .u8 53),.lit (.int .u8 39),.lit (.int .u8 33),.lit (.int .u8 30),.lit (.int .u8 24),.lit (.int .u8 18),.lit (.int .u8 12),.lit (.int .u8 5),.lit (.int .u8 63),.lit (.int .u8 55),.lit (.int .u8 48),.lit (.int .u8 27),.lit (.int .u8 60),.lit (.int .u8 41),.lit (.int .u8 37),.lit (.int .u8 16),.lit (.int .u8 46),.lit (.int .u8 35),.lit (.int .u8 44),.lit (.int .u8 21),.lit (.int .u8 52),.lit (.int .u8 32),.lit (.int .u8 23),.lit (.int .u8 11),.lit (.int .u8 54),.lit (.int .u8 26),.lit (.int .u8 40),.lit (.int .u8 15),.lit (.int .u8 34),.lit (.int .u8 20),.lit (.int .u8 31),.lit (.int .u8 10),.lit (.int .u8 25),.lit (.int .u8 14),.lit (.int .u8 19),.lit (.int .u8 9),.lit (.int .u8 13),.lit (.int .u8 8),.lit (.int .u8 7),.lit (.int .u8 6)]
theorem Aah {W:World} (h:laidMet Tryz.prog [("math/bits.deBruijn32tab", Rows.laid_math_bits_deBruijn32tab),("math/bits.deBruijn64tab", Rows.laid_math_bits_deBruijn64tab),("internal/strconv.uint64pow10", Rows.laid_internal_strconv_uint64pow10),("unicode/utf8.acceptRanges", Rows.laid_unicode_utf8_acceptRanges),("strconv.ErrRange", Rows.laid_strconv_ErrRange),("strconv.ErrSyntax", Rows.laid_strconv_ErrSyntax),("gitlike/object.kinds", Rows.laid_gitlike_object_kinds),("unicode/utf8.first", Rows.laid_unicode_utf8_first)] W):∃ t fr,W.heap[9]?=some (.cells D5.cells.toArray t fr) :=
 AuD (t:=(Tryz.prog.globals[9]?).elim 0 (·.type)) (e:=match Tryz.prog.underlying ((Tryz.prog.globals[9]?).elim 0 (·.type)) with | some (.array _ e)=>e | _=>0) (n:=D5.cells.length) h (List.mem_of_getElem? (i:=1) (show [("math/bits.deBruijn32tab", Rows.laid_math_bits_deBruijn32tab),("math/bits.deBruijn64tab", Rows.laid_math_bits_deBruijn64tab),("internal/strconv.uint64pow10", Rows.laid_internal_strconv_uint64pow10),("unicode/utf8.acceptRanges", Rows.laid_unicode_utf8_acceptRanges),("strconv.ErrRange", Rows.laid_strconv_ErrRange),("strconv.ErrSyntax", Rows.laid_strconv_ErrSyntax),("gitlike/object.kinds", Rows.laid_gitlike_object_kinds),("unicode/utf8.first", Rows.laid_unicode_utf8_first)][1]?=some ("math/bits.deBruijn64tab", DataW.agg Aag) by kernel_rfl)) (by kernel_rfl) (by kernel_rfl) (by kernel_rfl) (by kernel_rfl) (by kernel_rfl) (by kernel_rfl) (by kernel_rfl)
def TY:List (DataW Unit):=[.lit (.int .u64 1),.lit (.int .u64 10),.lit (.int .u64 100),.lit (.int .u64 1000),.lit (.int .u64 10000),.lit (.int .u64 100000),.lit (.int .u64 1000000),.lit (.int .u64 10000000),.lit (.int .u64 100000000),.lit (.int .u64 1000000000),.lit (.int .u64 10000000000),.lit (.int .u64 100000000000),.lit (.int .u64 1000000000000),.lit (.int .u64 10000000000000),.lit (.int .u64 100000000000000),.lit (.int .u64 1000000000000000),.lit (.int .u64 10000000000000000),.lit (.int .u64 100000000000000000),.lit (.int .u64 1000000000000000000),.lit (.int .u64 10000000000000000000)]
theorem TP {W:World} (h:laidMet Tryz.prog [("math/bits.deBruijn32tab", Rows.laid_math_bits_deBruijn32tab),("math/bits.deBruijn64tab", Rows.laid_math_bits_deBruijn64tab),("internal/strconv.uint64pow10", Rows.laid_internal_strconv_uint64pow10),("unicode/utf8.acceptRanges", Rows.laid_unicode_utf8_acceptRanges),("strconv.ErrRange", Rows.laid_strconv_ErrRange),("strconv.ErrSyntax", Rows.laid_strconv_ErrSyntax),("gitlike/object.kinds", Rows.laid_gitlike_object_kinds),("unicode/utf8.first", Rows.laid_unicode_utf8_first)] W):∃ t fr,W.heap[3]?=some (.cells BZ.cells.toArray t fr) :=
 AuD (t:=(Tryz.prog.globals[3]?).elim 0 (·.type)) (e:=match Tryz.prog.underlying ((Tryz.prog.globals[3]?).elim 0 (·.type)) with | some (.array _ e)=>e | _=>0) (n:=BZ.cells.length) h (List.mem_of_getElem? (i:=2) (show [("math/bits.deBruijn32tab", Rows.laid_math_bits_deBruijn32tab),("math/bits.deBruijn64tab", Rows.laid_math_bits_deBruijn64tab),("internal/strconv.uint64pow10", Rows.laid_internal_strconv_uint64pow10),("unicode/utf8.acceptRanges", Rows.laid_unicode_utf8_acceptRanges),("strconv.ErrRange", Rows.laid_strconv_ErrRange),("strconv.ErrSyntax", Rows.laid_strconv_ErrSyntax),("gitlike/object.kinds", Rows.laid_gitlike_object_kinds),("unicode/utf8.first", Rows.laid_unicode_utf8_first)][2]?=some ("internal/strconv.uint64pow10", DataW.agg TY) by kernel_rfl)) (by kernel_rfl) (by kernel_rfl) (by kernel_rfl) (by kernel_rfl) (by kernel_rfl) (by kernel_rfl) (by kernel_rfl)
def Agv:List (DataW Unit):=[.lit (.string []),.lit (.string [99,111,109,109,105,116]),.lit (.string [116,114,101,101]),.lit (.string [98,108,111,98]),.lit (.string [116,97,103])]
theorem Agr {W:World} (h:laidMet Tryz.prog [("math/bits.deBruijn32tab", Rows.laid_math_bits_deBruijn32tab),("math/bits.deBruijn64tab", Rows.laid_math_bits_deBruijn64tab),("internal/strconv.uint64pow10", Rows.laid_internal_strconv_uint64pow10),("unicode/utf8.acceptRanges", Rows.laid_unicode_utf8_acceptRanges),("strconv.ErrRange", Rows.laid_strconv_ErrRange),("strconv.ErrSyntax", Rows.laid_strconv_ErrSyntax),("gitlike/object.kinds", Rows.laid_gitlike_object_kinds),("unicode/utf8.first", Rows.laid_unicode_utf8_first)] W):∃ t fr,W.heap[0]?=some (.cells D7.cells.toArray t fr) :=
 AuD (t:=(Tryz.prog.globals[0]?).elim 0 (·.type)) (e:=match Tryz.prog.underlying ((Tryz.prog.globals[0]?).elim 0 (·.type)) with | some (.array _ e)=>e | _=>0) (n:=D7.cells.length) h (List.mem_of_getElem? (i:=6) (show [("math/bits.deBruijn32tab", Rows.laid_math_bits_deBruijn32tab),("math/bits.deBruijn64tab", Rows.laid_math_bits_deBruijn64tab),("internal/strconv.uint64pow10", Rows.laid_internal_strconv_uint64pow10),("unicode/utf8.acceptRanges", Rows.laid_unicode_utf8_acceptRanges),("strconv.ErrRange", Rows.laid_strconv_ErrRange),("strconv.ErrSyntax", Rows.laid_strconv_ErrSyntax),("gitlike/object.kinds", Rows.laid_gitlike_object_kinds),("unicode/utf8.first", Rows.laid_unicode_utf8_first)][6]?=some ("gitlike/object.kinds", DataW.agg Agv) by kernel_rfl)) (by kernel_rfl) (by kernel_rfl) (by kernel_rfl) (by kernel_rfl) (by kernel_rfl) (by kernel_rfl) (by kernel_rfl)
theorem Bzd : "*" ++ "errors.errorString" = "*errors.errorString" := by decide
theorem Bpt (u:TypeId) (h:Tryz.prog.typeName? 3 u=some "*errors.errorString"):u=252 :=
 typeName_ptr_named (nm := "errors.errorString") (by rw [Bzd]; kernel_rfl) (by kernel_rfl) (by decide) u (by rw [Bzd]; exact h)
theorem AmX {W:World} (h:laidMet Tryz.prog [("math/bits.deBruijn32tab", Rows.laid_math_bits_deBruijn32tab),("math/bits.deBruijn64tab", Rows.laid_math_bits_deBruijn64tab),("internal/strconv.uint64pow10", Rows.laid_internal_strconv_uint64pow10),("unicode/utf8.acceptRanges", Rows.laid_unicode_utf8_acceptRanges),("strconv.ErrRange", Rows.laid_strconv_ErrRange),("strconv.ErrSyntax", Rows.laid_strconv_ErrSyntax),("gitlike/object.kinds", Rows.laid_gitlike_object_kinds),("unicode/utf8.first", Rows.laid_unicode_utf8_first)] W):∃ (a:Addr) (t:TypeId) (fr:Nat×Nat),W.heap[5]?=some (.cells #[.iface 252 (.pointer (some a))] t fr):=by
 have h2:laidMet Tryz.prog (("strconv.ErrRange", DataW.iface "*errors.errorString" (.ptr (.agg [.lit (.string [118,97,108,117,101,32,111,117,116,32,111,102,32,114,97,110,103,101])])))::[("strconv.ErrSyntax", Rows.laid_strconv_ErrSyntax),("gitlike/object.kinds", Rows.laid_gitlike_object_kinds),("unicode/utf8.first", Rows.laid_unicode_utf8_first)]) W:=h.tail.tail.tail.tail
 have hg:Tryz.prog.globalNamed "strconv.ErrRange" = some 5:=by kernel_rfl
 obtain ⟨a,s,hv,_⟩:=laid_sentinel h2 hg (show (Tryz.prog.globals[5]?).map (·.type)=some 31 by kernel_rfl) Tryz.underlying31 Bpt Tryz.underlying252 Tryz.underlying254 rfl rfl Tryz.underlying9 (by kernel_rfl) (by kernel_rfl)
 exact ⟨a,AxD hg hv⟩
theorem AjH {W:World} (h:laidMet Tryz.prog [("math/bits.deBruijn32tab", Rows.laid_math_bits_deBruijn32tab),("math/bits.deBruijn64tab", Rows.laid_math_bits_deBruijn64tab),("internal/strconv.uint64pow10", Rows.laid_internal_strconv_uint64pow10),("unicode/utf8.acceptRanges", Rows.laid_unicode_utf8_acceptRanges),("strconv.ErrRange", Rows.laid_strconv_ErrRange),("strconv.ErrSyntax", Rows.laid_strconv_ErrSyntax),("gitlike/object.kinds", Rows.laid_gitlike_object_kinds),("unicode/utf8.first", Rows.laid_unicode_utf8_first)] W):∃ (a:Addr) (t:TypeId) (fr:Nat×Nat),W.heap[4]?=some (.cells #[.iface 252 (.pointer (some a))] t fr):=by
 have h2:laidMet Tryz.prog (("strconv.ErrSyntax", DataW.iface "*errors.errorString" (.ptr (.agg [.lit (.string [105,110,118,97,108,105,100,32,115,121,110,116,97,120])])))::[("gitlike/object.kinds", Rows.laid_gitlike_object_kinds),("unicode/utf8.first", Rows.laid_unicode_utf8_first)]) W:=h.tail.tail.tail.tail.tail
 have hg:Tryz.prog.globalNamed "strconv.ErrSyntax" = some 4:=by kernel_rfl
 obtain ⟨a,s,hv,_⟩:=laid_sentinel h2 hg (show (Tryz.prog.globals[4]?).map (·.type)=some 31 by kernel_rfl) Tryz.underlying31 Bpt Tryz.underlying252 Tryz.underlying254 rfl rfl Tryz.underlying9 (by kernel_rfl) (by kernel_rfl)
 exact ⟨a,AxD hg hv⟩
theorem Azl {W:World} (h:laidMetH Tryz.prog Rows.objectLinksRow.laid W) (hsh:W.ShapedOpen Tryz.prog):∃ t0 a0 t1 a1 m,@NL (giM t0 a0 t1 a1 m) (fun b=>b<W.heap.size) W:=by
 have h':laidMet Tryz.prog [("math/bits.deBruijn32tab", Rows.laid_math_bits_deBruijn32tab),("math/bits.deBruijn64tab", Rows.laid_math_bits_deBruijn64tab),("internal/strconv.uint64pow10", Rows.laid_internal_strconv_uint64pow10),("unicode/utf8.acceptRanges", Rows.laid_unicode_utf8_acceptRanges),("strconv.ErrRange", Rows.laid_strconv_ErrRange),("strconv.ErrSyntax", Rows.laid_strconv_ErrSyntax),("gitlike/object.kinds", Rows.laid_gitlike_object_kinds),("unicode/utf8.first", Rows.laid_unicode_utf8_first)] W∧handlesMet Tryz.prog [("errors.errorType", Rows.laid_errors_errorType)] W:=h
 obtain ⟨a0,e0⟩:=AmX h'.1
 obtain ⟨a1,e1⟩:=AjH h'.1
 obtain ⟨m,tt,fr,hh⟩:=AxS (k := .i64) (zero := #[.int .i64 0]) (g:=2) (t:=3) hsh (of_decide_eq_true (by kernel_rfl)) (by kernel_rfl) rfl (by kernel_rfl) (by kernel_rfl) Tryz.underlying3
 refine ⟨252,a0,252,a1,m,?_⟩
 letI:=giM 252 a0 252 a1 m
 intro g x hx
 have hm:=AEk hx
 have hm':(g,x)∈([(1,IE),(8,D6),(9,D5),(3,BZ),(0,D7),(5,GV.one (.iface 252 (.pointer (some a0)))),(4,GV.one (.iface 252 (.pointer (some a1)))),(2,GV.one (.int .i64 m))]:List (Nat×GV)):=hm
 simp only [List.mem_cons,List.mem_nil_iff,or_false,Prod.mk.injEq] at hm'
 have key:∃ t fr,W.heap[g]?=some (.cells x.cells.toArray t fr):=by
  rcases hm' with ⟨rfl,rfl⟩ | ⟨rfl,rfl⟩ | ⟨rfl,rfl⟩ | ⟨rfl,rfl⟩ | ⟨rfl,rfl⟩ | ⟨rfl,rfl⟩ | ⟨rfl,rfl⟩ | ⟨rfl,rfl⟩
  ·exact AwG h'.2
  ·exact Aae h'.1
  ·exact Aah h'.1
  ·exact TP h'.1
  ·exact Agr h'.1
  ·exact e0
  ·exact e1
  ·exact ⟨tt,fr,hh⟩
 obtain ⟨t,fr,hk⟩:=key
 exact ⟨(Array.getElem?_eq_some_iff.1 hk).1,t,fr,hk⟩
noncomputable def AAb (os:Os):World :=
 let w0:=World.holding Tryz.prog os ⟨#[],#[.agg #[.int .i64 0,.slice none 0 0]],[]⟩
 let w1:={ w0 with heap:=w0.heap.modify 1 fun
   | .cells _ t frozen => .cells IE.cells.toArray t frozen
   | o=>o }
 let w2:={ w1 with heap:=w1.heap.modify 8 fun
   | .cells _ t frozen => .cells D6.cells.toArray t frozen
   | o=>o }
 let w3:={ w2 with heap:=w2.heap.modify 9 fun
   | .cells _ t frozen => .cells D5.cells.toArray t frozen
   | o=>o }
 let w4:={ w3 with heap:=w3.heap.modify 3 fun
   | .cells _ t frozen => .cells BZ.cells.toArray t frozen
   | o=>o }
 let w5:={ w4 with heap:=w4.heap.modify 0 fun
   | .cells _ t frozen => .cells D7.cells.toArray t frozen
   | o=>o }
 let w6:={ w5 with heap:=w5.heap.modify 7 fun
   | .cells _ t frozen => .cells (Bql Rows.laid_unicode_utf8_acceptRanges).toArray t frozen
   | o=>o }
 let w7:={ w6 with heap:=w6.heap.modify 6 fun
   | .cells _ t frozen => .cells (Bql Rows.laid_unicode_utf8_first).toArray t frozen
   | o=>o }
 let w8:={ w7 with heap:=(w7.heap.push (.cells #[.string ⟨([118,97,108,117,101,32,111,117,116,32,111,102,32,114,97,110,103,101]:List UInt8).toArray⟩] 254 (0,0))).modify 5 fun
   | .cells _ t frozen => .cells #[.iface 252 (.pointer (some ⟨w7.heap.size,0,none⟩))] t frozen
   | o=>o }
 let w9:={ w8 with heap:=(w8.heap.push (.cells #[.string ⟨([105,110,118,97,108,105,100,32,115,121,110,116,97,120]:List UInt8).toArray⟩] 254 (0,0))).modify 4 fun
   | .cells _ t frozen => .cells #[.iface 252 (.pointer (some ⟨w8.heap.size,0,none⟩))] t frozen
   | o=>o }
 w9
theorem AxC (os:Os) (args:Array Value):laidMetH Tryz.prog Rows.objectLinksRow.laid ((AAb os).forCall (fun _ _=>0) ⟨#[],args,[]⟩).memory :=
 laidMetH_of_parts (laidMet_of_run' 8 (by kernel_rfl) (by kernel_rfl)) (by kernel_rfl)
theorem Br8:laidOutB Tryz.prog=true∧mapsRowed Tryz.prog=true :=
 have H:=ClosedOfChecked.allSpec_of Tryz.checked.wellFormed (by kernel_rfl:Tryz.checked.prog.types=Tryz.checked.src.types)
 ⟨ClosedOfChecked.laidOutB_of H (by kernel_rfl),ClosedOfChecked.mapsRowed_of H⟩
theorem Ot {a b:Bool} (h:a=true) (k:b=true):(a && b)=true:=by rw [h,k]; rfl
theorem Bye:(Rows.objectLinksRow.wf (OpenSpec.ofChange Rows.objectLinksSpec))=true:=by kernel_rfl
theorem Bw8:(laidOutB Tryz.prog)=true:=Br8.1
theorem Byq:(mapsRowed Tryz.prog)=true:=Br8.2
theorem BwE:(Tryz.f6.params.all (Tryz.prog.readableRec ·))=true:=by kernel_rfl
theorem BwG:(namedTie Tryz.prog Rows.objectLinksRow.named Rows.objectLinksSpec.vars)=true:=by kernel_rfl
theorem Byv:((Rows.objectLinksRow.stops == []))=true:=by kernel_rfl
theorem Bxv:((Tryz.prog.stops == []))=true:=by kernel_rfl
theorem BwY:((Rows.objectLinksRow.knobs == []))=true:=by kernel_rfl
theorem BxD:((Tryz.prog.stopKnobs == []))=true:=by kernel_rfl
theorem Bxq:((Rows.objectLinksRow.inPlace == Tryz.prog.inPlace 6))=true:=by kernel_rfl
theorem Bvo:((Rows.objectLinksRow.unfollowed == Tryz.prog.unfollowed 6))=true:=by kernel_rfl
theorem BtC:((Rows.objectLinksRow.recurses == Tryz.prog.recurses 6))=true:=by kernel_rfl
theorem Bu0:((Rows.objectLinksRow.named == Tryz.prog.varsNamed 6))=true:=by kernel_rfl
theorem BtH:((Rows.objectLinksRow.maps == (Tryz.f6.params.toList++Rows.objectLinksSpec.plain.varTypes Tryz.prog).any (Tryz.prog.mapsRec ·)))=true:=by kernel_rfl
theorem Bt6:((Rows.objectLinksRow.ifaces == (Tryz.f6.params.toList++Rows.objectLinksSpec.plain.varTypes Tryz.prog).any (Tryz.prog.ifacesRec ·)))=true:=by kernel_rfl
theorem Bva:((Rows.objectLinksRow.mapsOut == Tryz.prog.mapsAmong Tryz.f6.resultTypes.toList))=true:=by kernel_rfl
theorem Btc:((Rows.objectLinksRow.loops == (Tryz.f6.params.toList++Rows.objectLinksSpec.plain.varTypes Tryz.prog).any (Tryz.prog.loopsFrom ·)))=true:=by kernel_rfl
theorem Bth:((Rows.objectLinksRow.wideKeys == (Tryz.f6.params.toList++Rows.objectLinksSpec.plain.varTypes Tryz.prog++Tryz.f6.resultTypes.toList).any (Tryz.prog.wideKeysFrom ·)))=true:=by kernel_rfl
theorem Bvs:(Rows.objectLinksSpec.vars.all (Tryz.prog.varReadable ·))=true:=by kernel_rfl
theorem Buu:(Tryz.f6.resultTypes.all (fun t=>Tryz.prog.readableRec t && decide (t<Tryz.prog.types.size)))=true:=by kernel_rfl
theorem BtY:((Rows.objectLinksRow.ifacesOut == Tryz.f6.resultTypes.toList.any (Tryz.prog.ifacesRec ·)))=true:=by kernel_rfl
theorem BuS:((Rows.objectLinksRow.loopsOut == Tryz.f6.resultTypes.toList.any (Tryz.prog.loopsFrom ·)))=true:=by kernel_rfl
theorem BvO:((Rows.objectLinksRow.plainKeys == Tryz.prog.plainKeys))=true:=by kernel_rfl
theorem Bvi:(Rows.objectLinksRow.shortTexts.isNone)=true:=by kernel_rfl
theorem Bs9:(Tryz.prog.stopsHeard)=true:=by kernel_rfl
theorem Btm:(Tryz.prog.mayEnter)=true:=by kernel_rfl
theorem Bvl:((Rows.objectLinksRow.lifted == Tryz.prog.liftsFinal))=true:=by kernel_rfl
theorem Btp:((Tryz.prog.make == some Rows.objectLinksRow.make))=true:=by kernel_rfl
theorem Bt7:((Rows.objectLinksRow.kinds == (if Rows.objectLinksRow.domain.isEmpty then [] else Tryz.f6.params.toList.map fun t=>match Tryz.prog.underlying t with | some (.int k)=>some k | _=>none)))=true:=by kernel_rfl
theorem Bt2:((Rows.objectLinksRow.pinned == Rows.objectLinksRow.pinnedBy))=true:=by kernel_rfl
theorem BuW:((Rows.objectLinksRow.veiled == (Tryz.f6.params.toList++Rows.objectLinksSpec.plain.varTypes Tryz.prog++Tryz.f6.resultTypes.toList).any (Tryz.prog.veiledRec ·)))=true:=by kernel_rfl
theorem Bue:(Rows.objectLinksRow.veiledFits Tryz.prog Tryz.f6.params.toList (Tryz.f6.params.toList++Rows.objectLinksSpec.plain.varTypes Tryz.prog++Tryz.f6.resultTypes.toList))=true:=by kernel_rfl
set_option maxRecDepth 100000 in
theorem BoE:((Rows.objectLinksRow.wf (OpenSpec.ofChange Rows.objectLinksSpec)) && (laidOutB Tryz.prog) && (mapsRowed Tryz.prog) && (Tryz.f6.params.all (Tryz.prog.readableRec ·)) && (namedTie Tryz.prog Rows.objectLinksRow.named Rows.objectLinksSpec.vars) && ((Rows.objectLinksRow.stops == [])) && ((Tryz.prog.stops == [])) && ((Rows.objectLinksRow.knobs == [])) && ((Tryz.prog.stopKnobs == [])) && ((Rows.objectLinksRow.inPlace == Tryz.prog.inPlace 6)) && ((Rows.objectLinksRow.unfollowed == Tryz.prog.unfollowed 6)) && ((Rows.objectLinksRow.recurses == Tryz.prog.recurses 6)) && ((Rows.objectLinksRow.named == Tryz.prog.varsNamed 6)) && ((Rows.objectLinksRow.maps == (Tryz.f6.params.toList++Rows.objectLinksSpec.plain.varTypes Tryz.prog).any (Tryz.prog.mapsRec ·))) && ((Rows.objectLinksRow.ifaces == (Tryz.f6.params.toList++Rows.objectLinksSpec.plain.varTypes Tryz.prog).any (Tryz.prog.ifacesRec ·))) && ((Rows.objectLinksRow.mapsOut == Tryz.prog.mapsAmong Tryz.f6.resultTypes.toList)) && ((Rows.objectLinksRow.loops == (Tryz.f6.params.toList++Rows.objectLinksSpec.plain.varTypes Tryz.prog).any (Tryz.prog.loopsFrom ·))) && ((Rows.objectLinksRow.wideKeys == (Tryz.f6.params.toList++Rows.objectLinksSpec.plain.varTypes Tryz.prog++Tryz.f6.resultTypes.toList).any (Tryz.prog.wideKeysFrom ·))) && (Rows.objectLinksSpec.vars.all (Tryz.prog.varReadable ·)) && (Tryz.f6.resultTypes.all (fun t=>Tryz.prog.readableRec t && decide (t<Tryz.prog.types.size))) && ((Rows.objectLinksRow.ifacesOut == Tryz.f6.resultTypes.toList.any (Tryz.prog.ifacesRec ·))) && ((Rows.objectLinksRow.loopsOut == Tryz.f6.resultTypes.toList.any (Tryz.prog.loopsFrom ·))) && ((Rows.objectLinksRow.plainKeys == Tryz.prog.plainKeys)) && (Rows.objectLinksRow.shortTexts.isNone) && (Tryz.prog.stopsHeard) && (Tryz.prog.mayEnter) && ((Rows.objectLinksRow.lifted == Tryz.prog.liftsFinal)) && ((Tryz.prog.make == some Rows.objectLinksRow.make)) && ((Rows.objectLinksRow.kinds == (if Rows.objectLinksRow.domain.isEmpty then [] else Tryz.f6.params.toList.map fun t=>match Tryz.prog.underlying t with | some (.int k)=>some k | _=>none))) && ((Rows.objectLinksRow.pinned == Rows.objectLinksRow.pinnedBy)) && ((Rows.objectLinksRow.veiled == (Tryz.f6.params.toList++Rows.objectLinksSpec.plain.varTypes Tryz.prog++Tryz.f6.resultTypes.toList).any (Tryz.prog.veiledRec ·))) && (Rows.objectLinksRow.veiledFits Tryz.prog Tryz.f6.params.toList (Tryz.f6.params.toList++Rows.objectLinksSpec.plain.varTypes Tryz.prog++Tryz.f6.resultTypes.toList)))=true:=(Ot (Ot (Ot (Ot (Ot (Ot (Ot (Ot (Ot (Ot (Ot (Ot (Ot (Ot (Ot (Ot (Ot (Ot (Ot (Ot (Ot (Ot (Ot (Ot (Ot (Ot (Ot (Ot (Ot (Ot (Ot Bye Bw8) Byq) BwE) BwG) Byv) Bxv) BwY) BxD) Bxq) Bvo) BtC) Bu0) BtH) Bt6) Bva) Btc) Bth) Bvs) Buu) BtY) BuS) BvO) Bvi) Bs9) Btm) Bvl) Btp) Bt7) Bt2) BuW) Bue)
set_option maxRecDepth 100000 in
theorem AB0:joinedFacts Tryz.prog 6 Tryz.f6 Rows.objectLinksSpec Rows.objectLinksRow=true:=BoE
set_option maxRecDepth 100000 in
theorem lifted (os:Os) (started:os.Started) (H:Type) (enc:TypeId×Value→H) :
  ReturnsInHanded {} Tryz.checked os 6 .any (fun w args=>(Rows.objectLinksSpec.pre enc Tryz.prog Tryz.f6 [] false w args∧laidMetH Tryz.prog Rows.objectLinksRow.laid w)∧sizedMet enc Tryz.prog Tryz.f6 (OpenSpec.ofChange Rows.objectLinksSpec) false w args) (Rows.objectLinksSpec.post enc Tryz.prog Tryz.f6 false true false false):=by
 refine AsV (C:=Tryz.checked) (X:=fun w _=>laidMetH Tryz.prog Rows.objectLinksRow.laid w) (fun _ _ _ hh h=>h.of_heap hh) own started (by kernel_rfl) Tryz.func6
  (ChangeSpec.witness_at (enc:=enc) (C:=Tryz.checked) (os:=os) (X:=fun w _=>laidMetH Tryz.prog Rows.objectLinksRow.laid w) false (AAb os) #[.agg #[.int .i64 0,.slice none 0 0]] 8 rfl (by kernel_rfl) (by kernel_rfl) (by kernel_rfl) (by kernel_rfl) (by kernel_rfl) (AxC os _)) ?_
 intro W base args ds gs before hval0 hW hcnd hsz0 hL hsh _
 obtain ⟨t0,a0,t1,a1,m,hG⟩:=Azl hL hsh
 letI:Cc:=giM t0 a0 t1 a1 m
 haveI:GK:=ArG t0 a0 t1 a1 m
 haveI:JC:=Acd t0 a0 t1 a1 m
 haveI:Gx:=Acf t0 a0 t1 a1 m
 haveI:AX:=U6 t0 a0 t1 a1 m
 haveI:BI:=Ai5 t0 a0 t1 a1 m
 haveI:Bd:=ArE t0 a0 t1 a1 m
 haveI:Ba:=Apz t0 a0 t1 a1 m
 haveI:GH:=⟨m,by kernel_rfl⟩
 have hsz:(DataW.weightsEach Tryz.prog (Tryz.f6.params.toList++Rows.objectLinksSpec.plain.varTypes Tryz.prog) (ds++gs)).all (· ≤ reachBytes)=true:=hsz0
 have hval:∀ (j:Nat) t v,Tryz.f6.params[j]?=some t→args[j]?=some v→Value.okWide Tryz.prog W .any base t v:=hval0
 have hW':=hW
 obtain ⟨p,q,hA0,hV,rfl,hfz,hnd⟩:=hW
 have hA:DataW.TrodAll enc Tryz.prog W 0 (fun _=>true) true Tryz.f6.params.toList args.toList ds p:=hA0
 obtain ⟨rfl,rfl⟩:=trodVars_none hV
 have hsz2:(DataW.weightsEach Tryz.prog Tryz.f6.params.toList ds).all (· ≤ reachBytes)=true:=by
  have e:Tryz.f6.params.toList++Rows.objectLinksSpec.plain.varTypes Tryz.prog=Tryz.f6.params.toList:=by simp [ChangeSpec.plain,Rows.objectLinksSpec]; rfl
  rw [e,List.append_nil] at hsz; exact hsz
 have hA':=hA
 have hps:(Tryz.f6.params.toList.all fun t=>Tryz.prog.readableRec t && decide (t<Tryz.prog.types.size))=true:=by kernel_rfl
 have hv2:∀ (j:Nat) t v,Tryz.f6.params.toList[j]?=some t→args.toList[j]?=some v→∃ base,Value.okWide Tryz.prog W .any base t v:=fun j t v h1 h2=>⟨base,hval j t v (by rw [←Array.getElem?_toList]; exact h1) (by rw [←Array.getElem?_toList]; exact h2)⟩
 rw [Tryz.params6] at hA hsz2 hv2
 obtain ⟨dsE,hdsE⟩:∃ x,x=ds:=⟨_,rfl⟩
 refine (Btn (f:=6) (AwK AEa (Ayg Tryz.underlying66) (fun _=>rfl) AxT) (fun a h=>BnD a.1.1 a.1.2 h.1.1.1 h.1.1.2 h.1.2) hA hv2 hsz2 (hG)).mono fun e W' ⟨he,bel⟩ => ?_
 subst he
 have hB:=Aqm Br8.1 bel hps hA'
 have hAo:=hA
 obtain ⟨v0,vs0,d0,ds0,p0,q0,ha0,hd0,hp0,h0,r0⟩:=trodAll_cons hAo
 obtain ⟨hz1,hz2,hz3⟩:=trodAll_nil r0
 have hd:ds=[d0]:=by rw [hd0,hz2]
 subst hd
 exact ⟨_,rfl,_,_,_,[],_,[],hW',trodAll_mk1 (shut_bool Tryz.underlying4 _),hB,rfl,bel.frame _,fun h=>by cases h⟩
theorem over:Rows.objectLinksRow.holds Tryz.pinned (OpenSpec.ofChange Rows.objectLinksSpec) :=
 OpenClaim.holds_of_wide 6 Tryz.f6 rfl rfl rfl rfl rfl rfl rfl ⟨rfl,rfl,rfl,rfl,rfl⟩ rfl rfl rfl rfl rfl (by kernel_rfl) Tryz.func6 AB0
  (of_decide_eq_true (by kernel_rfl)) (by unfold Func.isWrapper; first | (rw [if_pos (by decide +kernel)]; kernel_rfl) | (rw [if_neg (by decide +kernel)]; exact ⟨rfl,rfl⟩))
  (fun os started H enc _=>lifted os started H enc)
theorem stands:(Tryz.f6.params.toList.all fun t => !Tryz.prog.wantsStandIn t)=true:=by kernel_rfl
theorem proved:Rows.ObjectLinksCardSaid :=
 Claim7.holds_tied_plain_at .later [] [.data,.data,.data,.data,.handle,.sentinel,.sentinel,.data,.pinned] true (true, "e6ab31fe43430383ffa178a85459ae3fe14ad8d0c4adf46aafb056f087e0bfb5") true
  over (fun _ h=>by cases h) (by kernel_rfl) (fun _ h=>by cases h) objectLinks_row_tie rfl ⟨rfl,rfl⟩ (by kernel_rfl) rfl
  (fun f fn hf hfn=>by
   obtain rfl:f=6:=(Option.some.inj ((show Tryz.prog.funcNamed "gitlike/gitlikelaw3.ObjectLinks" = some 6 by kernel_rfl).symm.trans hf)).symm
   obtain rfl:fn=Tryz.f6:=(Option.some.inj (Tryz.func6.symm.trans hfn)).symm
   exact ⟨by kernel_rfl,fun j t ht=>by
    rw [←Array.getElem?_toList] at ht
    have:=List.all_eq_true.1 stands t (List.mem_of_getElem? ht)
    exact (show Tryz.prog.wantsStandIn t=false by simpa using this)⟩)
  (by kernel_rfl)
#print axioms proved
end Go.Proofs.YtliaddbbmnfioaaGreatDoor.objectLinks
