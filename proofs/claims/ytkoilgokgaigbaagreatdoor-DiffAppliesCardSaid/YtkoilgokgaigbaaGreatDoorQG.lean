/- DiffAppliesCard: the law, proved out of contracts of the functions that it reaches (texts merged; names shortened by a program). No condition is laid on it. -/
import Derived.Test.YtkoilgokgaigbaaGreatDoorQF
import Derived.SevenTiedAt
import Derived.Test.YtkoilgokgaigbaaGreatDoorCards
import Derived.Test.YtkoilgokgaigbaaGreatDoorTie
import Derived.Test.YtkoilgokgaigbaaGreatDoorRows
import Derived.Test.YtkoilgokgaigbaaGreatDoorProg
import Derived.WalkKit
import Derived.ProofKit
import Derived.OpenShut
import Derived.ShutString
import Derived.ChangeOld
import Derived.Below
import Derived.SizedLaws
import Derived.ChangeVars
import Derived.LaidLaws
import Derived.LaidHandle
import Derived.Stop.Joined
import Derived.Stop.LaidErr
import Derived.ClosedOfChecked
import Derived.Test.YtkoilgokgaigbaaGreatDoorQE
set_option linter.unusedSectionVars false
set_option linter.unusedSimpArgs false
set_option linter.unusedVariables false
namespace Go.Proofs.YtkoilgokgaigbaaGreatDoor
section
open Go.RowKit
variable [AtW]
theorem AJU:∀ {t r:List UInt8},(10:UInt8)∉t→ACd 10 (t++10::r)=some t.length
 | [],r,_=>by simp [ACd]
 | b::t,r,h=>by
  have hb:¬ b=10:=fun e=>h (by simp [e])
  rw [List.cons_append,ACd,if_neg hb,AJU fun h2=>h (by simp [h2])]
  simp
theorem AL8:∀ {t:List UInt8},(10:UInt8)∉t→ACd 10 t=none
 | [],_=>rfl
 | b::t,h=>by
  have hb:¬ b=10:=fun e=>h (by simp [e])
  rw [ACd,if_neg hb,AL8 fun h2=>h (by simp [h2])]
  rfl
theorem AOp {c:UInt8} {k:Int} (h:Axt c=some k):¬ c=10∧(k=0∨k=1∨k=2):=by
 unfold Axt at h
 split at h
 ·rename_i e; cases h; exact ⟨by rw [e]; decide,.inl rfl⟩
 split at h
 ·rename_i e; cases h; exact ⟨by rw [e]; decide,.inr (.inl rfl)⟩
 split at h
 ·rename_i e; cases h; exact ⟨by rw [e]; decide,.inr (.inr rfl)⟩
 ·cases h
theorem AOu {c:UInt8} {w:List UInt8} (h:Axt c=none):lnF (c::w)=none:=by
 unfold lnF
 cases hc:ACd 10 (c::w) with
 | none=>rfl
 | some i =>
  cases i with
  | zero=>rfl
  | succ i=>simp [h]
theorem ALP {c:UInt8} {w:List UInt8} (h:(10:UInt8)∉w):lnF (c::w)=none:=by
 unfold lnF
 by_cases hc:c=10
 ·subst hc; rw [ACd,if_pos rfl]; rfl
 ·rw [AL8 (by simp [h,Ne.symm hc])]
theorem AQq {s:List UInt8} (h:s.length<2):lnF s=none:=by
 match s,h with
 | [],_=>rfl
 | [c],_=>exact ALP (by simp)
theorem A0v {c:UInt8} {t r:List UInt8} {k:Int} (hk:Axt c=some k) (ht:(10:UInt8)∉t):lnF (c::(t++10::r))=if (lnE t r).1=[] then none else some ((k,(lnE t r).1),(lnE t r).2):=by
 have hc:=(AOp hk).1
 have e0:c::(t++10::r)=(c::t)++10::r:=rfl
 unfold lnF
 rw [e0,AJU (by simp [ht,Ne.symm hc])]
 simp only
 have e1:((c::t)++10::r).take (c::t).length=c::t:=by simp
 have e2:((c::t)++10::r).drop ((c::t).length+1)=r:=by simp
 rw [e1,e2]
 simp only [hk]
def hkA (A B:Int) (N M:Nat) (ver n:Nat):TV := .agg [i64 A,i64 (N:Int),i64 B,i64 (M:Int),.os 2 2 ver [] 0 n n]
theorem AxB {A B:Int} {N M ver n:Nat}:hkA A B N M ver n = .agg [i64 A,i64 (N:Int),i64 B,i64 (M:Int),.os 2 2 ver [] 0 n n]:=by unfold hkA; rfl
theorem ATl {A B:Int} {N M n m ver:Nat} {ch:Bool} {es:List EZ} {k:Int} {x r:List UInt8} {T:List Ob} {Q:VEx→Env→List Ob→Prop} {G:Env} (hes:es.length≤4000) (hn:n≤4000) (hm:m≤4000) (hk:k=0∨k=1∨k=2) (hx:x.length≤4000)
  (hno:x=[]→Q .ret [(4,.op 1 0 []),(5,ts r),(6,tb false)] (.obj 0 (hkA A B N M ver es.length) :: .obj 0 (hkA A B N M ver es.length) :: .obj ver (.arr es.length 2 (es.map ez))::T))
  (hyes:x≠[]→∀ T',Q .nor [(1,ts r),(2,.op 0 0 []),(4,.op 1 0 []),(7,i64 ((if k=2 then n else n+1:Nat):Int)),(8,i64 ((if k=1 then m else m+1:Nat):Int)),(9,tb (ch || decide (k≠0)))]
   (.obj 0 (hkA A B N M (ver+1) (es++[(k,x)]).length) :: .obj 0 (.agg [i64 ((0:Nat):Int),i64 ((0:Nat):Int),i64 ((0:Nat):Int),i64 ((0:Nat):Int),.val (.slice none 0 0)]) :: .obj (ver+1) (.arr (es++[(k,x)]).length 2 ((es++[(k,x)]).map ez))::T')) :
  vwp Tryz.prog Avm Q ((1,ts r)::(2,.op 0 0 [])::(4,.op 1 0 [])::(7,i64 (n:Int))::(8,i64 (m:Int))::(9,tb ch)::(10,i64 k)::(12,ts x)::G)
   (.obj 0 (hkA A B N M ver es.length) :: .obj 0 (.agg [i64 ((0:Nat):Int),i64 ((0:Nat):Int),i64 ((0:Nat):Int),i64 ((0:Nat):Int),.val (.slice none 0 0)]) :: .obj ver (.arr es.length 2 (es.map ez))::T):=by
 by_cases h0:x=[]
 ·have h1:=hno h0
  subst h0
  rw [AxB] at h1 ⊢
  simp -dsimp (disch:=first | assumption | omega | (simp only [Atb];try omega)) only [↓Ate,Ata,Atf,Atd,eq_self,Nat.reduceEqDiff,↓reduceIte,Nat.reduceAdd,AtF,↓Auw]
  exact h1
 ·have h1:=hyes h0
  have hx0:¬ x.length=0:=fun h=>h0 (List.length_eq_zero_iff.1 h)
  have hC:∀ (o0 o1 o2:Ob) (T:List Ob) (o:Ob),(o0::o1::o2::(T++[o]))[T.length+1+1+1]?=some o:=fun o0 o1 o2 T o=>by simp
  have hCs:∀ (o0 o1 o2:Ob) (T:List Ob) (o Y:Ob),(o0::o1::o2::(T++[o])).set (T.length+1+1+1) Y=o0::o1::o2::(T++[Y]):=fun o0 o1 o2 T o Y=>by simp
  have hl1:∀ (x:TV),[x].length=1:=fun x=>rfl
  have el:es.length+1=(es++[(k,x)]).length:=by simp
  have em:es.map ez++[TV.agg [i64 k,ts x]]=(es++[(k,x)]).map ez:=by simp [ez]
  rw [←el,←em] at h1
  rw [AxB] at h1
  rw [AxB]
  rcases hk with rfl | rfl | rfl
  ·simp only [Int.reduceEq,if_false,ne_eq,not_true_eq_false,decide_false,Bool.or_false] at h1
   cases ch
   all_goals
    simp -dsimp (disch:=first | assumption | omega | (simp only [Atb];try omega)) only [↓Ate,Ata,Atf,Atd,eq_self,Nat.reduceEqDiff,↓reduceIte,Nat.reduceAdd,Nat.reduceLeDiff,AtF,hx0,hC,hl1,AxO,↓Auw,↓Au6,↓Au1]
    exact h1 _
  ·simp only [Int.reduceEq,if_false,if_true,ne_eq,not_false_eq_true,decide_true,Bool.or_true] at h1
   cases ch
   all_goals
    simp -dsimp (disch:=first | assumption | omega | (simp only [Atb];try omega)) only [↓Ate,Ata,Atf,Atd,eq_self,Nat.reduceEqDiff,↓reduceIte,Nat.reduceAdd,Nat.reduceLeDiff,AtF,hx0,hC,hl1,AxO,↓Auw,↓Au6,↓Au1]
    exact h1 _
  ·simp only [Int.reduceEq,if_false,if_true,ne_eq,not_false_eq_true,decide_true,Bool.or_true] at h1
   cases ch
   all_goals
    simp -dsimp (disch:=first | assumption | omega | (simp only [Atb];try omega)) only [↓Ate,Ata,Atf,Atd,eq_self,Nat.reduceEqDiff,↓reduceIte,Nat.reduceAdd,Nat.reduceLeDiff,AtF,hx0,hC,hl1,AxO,↓Auw,↓Au6,↓Au1]
    exact h1 _
end
section
open Go.RowKit
variable [AtW]
abbrev hkZ:Ob := .obj 0 (.agg [i64 ((0:Nat):Int),i64 ((0:Nat):Int),i64 ((0:Nat):Int),i64 ((0:Nat):Int),.val (.slice none 0 0)])
theorem ABW {A B:Int} {N M n m ver:Nat} {ch:Bool} {es:List EZ} {c:UInt8} {w:List UInt8} {T:List Ob} {Q:VEx→Env→List Ob→Prop} {kz:Int} {G:Env} (hkz:(Axt c=none∧kz = -1)∨Axt c=some kz) (hw:w.length≤3999) (hes:es.length≤4000) (hn:n≤4000) (hm:m≤4000)
  (hno:lnF (c::w)=none→∀ r',Q .ret [(4,.op 1 0 []),(5,ts r'),(6,tb false)] (.obj 0 (hkA A B N M ver es.length) :: .obj 0 (hkA A B N M ver es.length) :: .obj ver (.arr es.length 2 (es.map ez))::T))
  (hyes:∀ e r,lnF (c::w)=some (e,r)→∀ T',Q .nor [(1,ts r),(2,.op 0 0 []),(4,.op 1 0 []),(7,i64 ((if e.1=2 then n else n+1:Nat):Int)),(8,i64 ((if e.1=1 then m else m+1:Nat):Int)),(9,tb (ch || decide (e.1≠0)))]
   (.obj 0 (hkA A B N M (ver+1) (es++[e]).length)::hkZ :: .obj (ver+1) (.arr (es++[e]).length 2 ((es++[e]).map ez))::T')) :
  vwp Tryz.prog Au9 Q ((1,ts (c::w))::(2,.op 0 0 [])::(4,.op 1 0 [])::(7,i64 (n:Int))::(8,i64 (m:Int))::(9,tb ch)::(10,i64 kz)::G)
   (.obj 0 (hkA A B N M ver es.length)::hkZ :: .obj ver (.arr es.length 2 (es.map ez))::T):=by
 rw [AxB] at hno ⊢
 simp -dsimp (disch:=first | assumption | omega | (simp only [Atb];try omega)) only [↓Ate,Ata,Atf,Atd,eq_self,Nat.reduceEqDiff,↓reduceIte,↓AzK,↓Ay6]
 refine Av3 (fun q e H=>∃ i:Nat,q=w.length - i∧i≤w.length∧(10:UInt8)∉w.take i ∧
  e=[(1,ts (c::w)),(2,.op 0 0 []),(4,.op 1 0 []),(7,i64 (n:Int)),(8,i64 (m:Int)),(9,tb ch),(10,i64 kz),(11,i64 ((i+1:Nat):Int))]∧H=(.obj 0 (.agg [i64 A,i64 (N:Int),i64 B,i64 (M:Int),.os 2 2 ver [] 0 es.length es.length])::hkZ :: .obj ver (.arr es.length 2 (es.map ez))::T)) w.length ?_ ?_
 ·exact ⟨0,rfl,by omega,by simp,rfl,rfl⟩
 ·rintro q e H ⟨i,rfl,hi,ht,rfl,rfl⟩
  by_cases h:i<w.length
  case neg =>
   have hie:i=w.length:=by omega
   subst hie
   rw [List.take_length] at ht
   have h1:=hno (ALP ht)
   by_cases hk0:kz<0
   ·simp -dsimp (disch:=first | assumption | omega | (simp only [Atb];try omega)) only [↓Ate,Ata,Atf,Atd,eq_self,Nat.reduceEqDiff,↓reduceIte,Nat.reduceAdd,AtF,↓Aug,↓Aup]
    exact h1 _
   ·simp -dsimp (disch:=first | assumption | omega | (simp only [Atb];try omega)) only [↓Ate,Ata,Atf,Atd,eq_self,Nat.reduceEqDiff,↓reduceIte,Nat.reduceAdd,Nat.reduceLeDiff,AtF,↓Aug,↓Aup]
    exact h1 _
  obtain ⟨b,hb⟩:∃ b,w[i]?=some b:=⟨_,List.getElem?_eq_getElem h⟩
  have hb1:(c::w)[i+1]?=some b:=by simpa using hb
  by_cases hb0:b.toNat=10
  case neg =>
   have hsucc:w.take (i+1)=w.take i++[b]:=by
    obtain ⟨_,rfl⟩:=List.getElem?_eq_some_iff.1 hb
    exact List.take_succ_eq_append_getElem h
   have hbn:¬ b=10:=fun e=>hb0 (by rw [e]; rfl)
   simp -dsimp (disch:=first | assumption | omega | (simp only [Atb];try omega)) only [↓Ate,Ata,Atf,Atd,eq_self,Nat.reduceEqDiff,↓reduceIte,AtF,hb1,hb0,↓Aug]
   exact Auj (w.length - (i+1)) (by omega) (by simp) ⟨i+1,rfl,by omega,by rw [hsucc]; simp [ht,Ne.symm hbn],rfl,rfl⟩
  have hbe:b=10:=UInt8.toNat_inj.1 hb0
  subst hbe
  have hsp:w=w.take i++10::w.drop (i+1):=by
   obtain ⟨_,hg⟩:=List.getElem?_eq_some_iff.1 hb
   conv=>lhs; rw [←List.take_append_drop i w,List.drop_eq_getElem_cons h,hg]
  have hil:(w.take i).length=i:=by simp; omega
  generalize w.take i=t at *
  generalize w.drop (i+1)=r at *
  subst hil
  rcases hkz with ⟨hk,rfl⟩ | hk
  ·have h1:=hno (AOu hk)
   simp -dsimp (disch:=first | assumption | omega | (simp only [Atb];try omega)) only [↓Ate,Ata,Atf,Atd,eq_self,Nat.reduceEqDiff,UInt8.reduceToNat,↓reduceIte,Nat.reduceAdd,AtF,hb1,↓Aug,↓Aup]
   exact h1 _
  have hl:=A0v (r:=r) hk ht
  rw [←hsp] at hl
  obtain ⟨_,hk3⟩:=AOp hk
  have hk0:¬ kz<0:=by omega
  have hwl:w.length=t.length+(r.length+1):=by rw [hsp]; simp
  have s1:(((c::w).drop 1).take (t.length+1+1 - 1))=t++[10]:=by
   show w.take (t.length+1+1 - 1)=_
   rw [hsp,show t.length+1+1 - 1=(t++[(10:UInt8)]).length by simp,show t++10::r=(t++[10])++r by simp,List.take_left]
  have s1':w.take (t.length+1)=t++[10]:=s1
  have s2:(c::w).drop (t.length+1+1)=r:=by
   show w.drop (t.length+1)=r
   rw [hsp,show t.length+1=(t++[(10:UInt8)]).length by simp,show t++10::r=(t++[10])++r by simp,List.drop_left]
  have s3:(w.drop (t.length+1)).take (w.length+1 - (t.length+1+1))=r:=by
   have e2:w.drop (t.length+1)=r:=s2
   rw [e2]; exact List.take_of_length_le (by omega)
  simp -dsimp (disch:=first | assumption | omega | (simp only [Atb];try omega)) only [↓Ate,Ata,Atf,Atd,eq_self,Nat.reduceEqDiff,UInt8.reduceToNat,↓reduceIte,Nat.reduceLeDiff,AtF,hb1,s3,s1',↓Aug,↓Aup,↓AzT,↓AAd,↓AAh]
  refine AvI ((AIb r noE (by omega) (by decide)).calls rfl fun x hx => ?_)
  subst hx
  unfold AwK Lib.trimPrefix Lib.hasPrefix
  unfold lnE at hl
  by_cases hp:noE.isPrefixOf r=true
  ·rw [if_pos hp] at hl
   rw [hp,if_pos rfl]
   simp only at hl
   have s4:(t++[10]).take ((t++[(10:UInt8)]).length - 1)=t:=by simp
   have s5:(t++[10]).take t.length=t:=by simp
   have s6:(t++[(10:UInt8)]).length=t.length+1:=by simp
   have hdl:(r.drop noE.length).length≤r.length:=by simp
   simp -dsimp (disch:=first | assumption | omega | (simp only [Atb];try omega)) only [↓Ate,Ata,Atf,Atd,eq_self,Nat.reduceEqDiff,↓reduceIte,AtF,s6,s5,↓AvV,↓Az4]
   refine ATl hes hn hm hk3 (by omega) (fun h0 => ?_) (fun h0 T' => ?_)
   ·rw [if_pos h0] at hl
    exact hno hl _
   ·rw [if_neg h0] at hl
    exact hyes _ _ hl T'
  ·rw [if_neg hp] at hl
   rw [Bool.eq_false_iff.2 hp]
   simp only at hl
   have h0:¬ (t++[10]=([]:List UInt8)):=by simp
   rw [if_neg h0] at hl
   simp -dsimp (disch:=first | assumption | omega | (simp only [Atb];try omega)) only [↓Ate,Ata,Atf,Atd,eq_self,Nat.reduceEqDiff,↓reduceIte,↓AvV]
   refine ATl hes hn hm hk3 (by simp; omega) (fun h0'=>absurd h0' h0) (fun h0 T' => ?_)
   exact hyes _ _ hl T'
end
section
open Go.RowKit
variable [AtW]
def AVc (es:List EZ):Bool:=es.any (fun e=>decide (e.1≠0))
theorem Ayc (es:List EZ) (e:EZ):AVc (es++[e])=(AVc es || decide (e.1≠0)):=by unfold AVc; simp
def AT5 (A B:Int) (N M:Nat) (s:List UInt8) (x:TV):Prop:=∃ (es:List EZ) (r:List UInt8),x = .tup [.agg [i64 A,i64 (N:Int),i64 B,i64 (M:Int),.sl 2 (es.map ez)],ts r,tb (AHE N M s []).isSome]∧∀ es0 r0,AHE N M s []=some (es0,r0)→es=es0∧r=r0
theorem AGT {Ss:List Nat} {e:Env} {o0 o o':Ob} {T:List Ob} (h:∀ p∈e,p.1≠4→Ax6 p.2≠some 1) (hS:4∉Ss):ADP Ss e (o0::o::T) (o0::o'::T):=fun t ht id hg=>by
 match id,hg with
 | 0,_=>rfl
 | 1,hg=>exact absurd hg (AKH h fun h2=>hS (h2▸ht))
 | i+2,_=>rfl
set_option maxHeartbeats 1000000 in
theorem AVS (A B:Int) (N M:Nat) (s:List UInt8) (hs:s.length≤4000) (hN:N<1000000000) (hM:M<1000000000):Auy Tryz.prog 34 [.agg [i64 A,i64 (N:Int),i64 B,i64 (M:Int),.val (.slice none 0 0)],ts s] (AT5 A B N M s):=by
 refine Ato.toPureV (ADo (by simp) ?_)
 simp -dsimp (disch:=first | assumption | omega | (simp only [Atb];try omega)) only [↓Ate,Ata,Atf,Atd,eq_self,Nat.reduceEqDiff,↓reduceIte,Nat.reduceAdd,reduceCtorEq,↓ACC,↓AyU,↓Azt,↓Azo,↓Azm]
 refine Av3 (fun q e H=>∃ (es:List EZ) (r:List UInt8) (ver:Nat) (T:List Ob),q=r.length∧AHE N M s []=AHE N M r es∧es.length+r.length≤s.length ∧
  e=[(1,ts r),(2,.op 0 0 []),(4,.op 1 0 []),(7,i64 (zN es:Int)),(8,i64 (zM es:Int)),(9,tb (AVc es))]∧H = .obj 0 (hkA A B N M ver es.length)::hkZ :: .obj ver (.arr es.length 2 (es.map ez))::T) s.length ?_ ?_
 ·exact ⟨[],s,0,[],rfl,rfl,by simp,rfl,by rw [AxB]; rfl⟩
 ·rintro q e H ⟨es,r,ver,T,rfl,hl,hlen,rfl,rfl⟩
  have hzn:=AOx es
  have hzm:=APf es
  by_cases g:zN es<N∨zM es<M
  case neg =>
   rw [AHi g] at hl
   have g1:¬ zN es<N:=fun h=>g (.inl h)
   have g2:¬ zM es<M:=fun h=>g (.inr h)
   rw [AxB]
   have fin:∀ b:Bool,b=(AVc es && (decide (zN es=N) && decide (zM es=M)))→AT5 A B N M s (.tup [.agg [i64 A,i64 (N:Int),i64 B,i64 (M:Int),.sl 2 (es.map ez)],ts r,tb b]):=fun b hb=>by
    have hch:AVc es=es.any (fun e=>decide (e.1≠0)):=rfl
    by_cases hc:zN es=N∧zM es=M∧es.any (fun e=>decide (e.1≠0))=true
    ·rw [if_pos hc] at hl
     refine ⟨es,r,?_,fun es0 r0 h=>by rw [hl] at h; cases h; exact ⟨rfl,rfl⟩⟩
     rw [hl,hb,hch,hc.1,hc.2.1,hc.2.2]; simp
    ·rw [if_neg hc] at hl
     refine ⟨es,r,?_,fun es0 r0 h=>by rw [hl] at h; cases h⟩
     have:b=false:=by
      rw [hb,hch]
      by_cases c1:es.any (fun e=>decide (e.1≠0))=true
      ·by_cases c2:zN es=N
       ·have c3:¬ zM es=M:=fun c3=>hc ⟨c2,c3,c1⟩
        simp [c3]
       ·simp [c2]
      ·rw [Bool.eq_false_iff.2 c1]; rfl
     rw [hl,this]; rfl
   generalize AVc es=ch at *
   cases ch with
   | false =>
    have f:=fin false rfl
    simp -dsimp (disch:=first | assumption | omega | (simp only [Atb];try omega)) only [↓Ate,Ata,Atf,Atd,eq_self,Nat.reduceEqDiff,Nat.reduceMod,↓reduceIte,Nat.reduceAdd,g1,g2,↓Atj,↓Auq,↓Atn]
    refine ⟨f,AGT ?_ (by decide +kernel)⟩
    repeat first | exact AFY | refine Au0 (.inl rfl) ?_ | refine Au0 (.inr (by simp [Ax6])) ?_
   | true =>
    by_cases c2:zN es=N
    ·by_cases c3:zM es=M
     ·have f:=fin true (by simp [c2,c3])
      simp -dsimp (disch:=first | assumption | omega | (simp only [Atb];try omega)) only [↓Ate,Ata,Atf,Atd,eq_self,Nat.reduceEqDiff,Nat.reduceMod,↓reduceIte,Nat.reduceAdd,c2,c3,↓Atj,↓Auq,↓Atn]
      refine ⟨f,AGT ?_ (by decide +kernel)⟩
      repeat first | exact AFY | refine Au0 (.inl rfl) ?_ | refine Au0 (.inr (by simp [Ax6])) ?_
     ·have f:=fin false (by simp [c3])
      simp -dsimp (disch:=first | assumption | omega | (simp only [Atb];try omega)) only [↓Ate,Ata,Atf,Atd,eq_self,Nat.reduceEqDiff,Nat.reduceMod,↓reduceIte,Nat.reduceAdd,g2,c2,c3,↓Atj,↓Auq,↓Atn]
      refine ⟨f,AGT ?_ (by decide +kernel)⟩
      repeat first | exact AFY | refine Au0 (.inl rfl) ?_ | refine Au0 (.inr (by simp [Ax6])) ?_
    ·have f:=fin false (by simp [c2])
     simp -dsimp (disch:=first | assumption | omega | (simp only [Atb];try omega)) only [↓Ate,Ata,Atf,Atd,eq_self,Nat.reduceEqDiff,Nat.reduceMod,↓reduceIte,Nat.reduceAdd,g1,g2,c2,↓Atj,↓Auq,↓Atn]
     refine ⟨f,AGT ?_ (by decide +kernel)⟩
     repeat first | exact AFY | refine Au0 (.inl rfl) ?_ | refine Au0 (.inr (by simp [Ax6])) ?_
  ·have hgo:∀ {e r'},lnF r=some (e,r')→AHE N M s []=AHE N M r' (es++[e]):=fun h=>by rw [hl,AK1 g h]
   have hbad:lnF r=none→AHE N M s []=none:=fun h=>by rw [hl,AI2 g h]
   have fin:lnF r=none→∀ r',AT5 A B N M s (.tup [.agg [i64 A,i64 (N:Int),i64 B,i64 (M:Int),.sl 2 (es.map ez)],ts r',tb false]):=fun h r'=>⟨es,r',by rw [hbad h]; rfl,fun es0 r0 h2=>by rw [hbad h] at h2; cases h2⟩
   by_cases hr2:r.length<2
   ·have f:=fin (AQq hr2) r
    rw [AxB]
    by_cases g1:zN es<N
    ·simp -dsimp (disch:=first | assumption | omega | (simp only [Atb];try omega)) only [↓Ate,Ata,Atf,Atd,eq_self,Nat.reduceEqDiff,↓reduceIte,Nat.reduceAdd,AtF,g1,hr2,↓Atj,↓Atq,↓Atn]
     exact f
    ·have g2:zM es<M:=g.elim (fun h=>absurd h g1) id
     simp -dsimp (disch:=first | assumption | omega | (simp only [Atb];try omega)) only [↓Ate,Ata,Atf,Atd,eq_self,Nat.reduceEqDiff,↓reduceIte,Nat.reduceAdd,AtF,g1,g2,hr2,↓Atj,↓Atq,↓Atn]
     exact f
   ·obtain ⟨c,w,rfl⟩:∃ c w,r=c::w:=by
     cases r with
     | nil=>simp at hr2
     | cons c w=>exact ⟨c,w,rfl⟩
    have hw:w.length≤3999:=by rw [List.length_cons] at hlen; omega
    have hw2:¬ w.length+1<2:=by rw [List.length_cons] at hr2; exact hr2
    rw [List.length_cons] at hlen
    have hc0:(c::w)[0]?=some c:=rfl
    have nx:∀ (e:EZ),(if e.1=2 then zN es else zN es+1)=zN (es++[e])∧(if e.1=1 then zM es else zM es+1)=zM (es++[e]):=fun e=>by
     rw [AOq,ATg,ANw,ATt]
     refine ⟨?_,?_⟩<;>split<;>rfl
    have hck:c.toNat=32∨c.toNat=45∨c.toNat=43∨(c.toNat≠32∧c.toNat≠45∧c.toNat≠43):=by omega
    rw [AxB]
    by_cases g1:zN es<N
    ·rcases hck with h | h | h | ⟨h,h',h''⟩
     ·have hk:Axt c=some 0:=by obtain rfl:c=32:=UInt8.toNat_inj.1 h; rfl
      simp -dsimp (disch:=first | assumption | omega | (simp only [Atb];try omega)) only [↓Ate,Ata,Atf,Atd,eq_self,Nat.reduceEqDiff,↓reduceIte,Nat.reduceAdd,AtF,g1,hw2,hc0,h,↓Atj,↓Atq,↓AtA,↓Atz]
      refine ABW (n:=zN es) (m:=zM es) (es:=es) (ver:=ver) (.inr hk) hw (by omega) (by omega) (by omega) (fun hn r' => ?_) (fun e r' he T' => ?_)
      ·rw [AxB]
       simp -dsimp (disch:=first | assumption | omega | (simp only [Atb];try omega)) only [↓Ate,Ata,Atf,Atd,eq_self,Nat.reduceEqDiff,↓reduceIte,Nat.reduceAdd,↓Atn]
       exact fin hn r'
      ·have hsp:=Avu he
       rw [List.length_cons] at hsp
       rw [(nx e).1,(nx e).2,←Ayc]
       simp -dsimp (disch:=first | assumption | omega | (simp only [Atb];try omega)) only [↓Ate,Atd]
       exact Auj r'.length (by omega) (by simp) ⟨es++[e],r',ver+1,T',rfl,hgo he,by simp; omega,rfl,by rw [List.length_append]; rfl⟩
     ·have hk:Axt c=some 1:=by obtain rfl:c=45:=UInt8.toNat_inj.1 h; rfl
      simp -dsimp (disch:=first | assumption | omega | (simp only [Atb];try omega)) only [↓Ate,Ata,Atf,Atd,eq_self,Nat.reduceEqDiff,↓reduceIte,Nat.reduceAdd,AtF,g1,hw2,hc0,h,↓Atj,↓Atq,↓AtA,↓Atz]
      refine ABW (n:=zN es) (m:=zM es) (es:=es) (ver:=ver) (.inr hk) hw (by omega) (by omega) (by omega) (fun hn r' => ?_) (fun e r' he T' => ?_)
      ·rw [AxB]
       simp -dsimp (disch:=first | assumption | omega | (simp only [Atb];try omega)) only [↓Ate,Ata,Atf,Atd,eq_self,Nat.reduceEqDiff,↓reduceIte,Nat.reduceAdd,↓Atn]
       exact fin hn r'
      ·have hsp:=Avu he
       rw [List.length_cons] at hsp
       rw [(nx e).1,(nx e).2,←Ayc]
       simp -dsimp (disch:=first | assumption | omega | (simp only [Atb];try omega)) only [↓Ate,Atd]
       exact Auj r'.length (by omega) (by simp) ⟨es++[e],r',ver+1,T',rfl,hgo he,by simp; omega,rfl,by rw [List.length_append]; rfl⟩
     ·have hk:Axt c=some 2:=by obtain rfl:c=43:=UInt8.toNat_inj.1 h; rfl
      simp -dsimp (disch:=first | assumption | omega | (simp only [Atb];try omega)) only [↓Ate,Ata,Atf,Atd,eq_self,Nat.reduceEqDiff,↓reduceIte,Nat.reduceAdd,AtF,g1,hw2,hc0,h,↓Atj,↓Atq,↓AtA,↓Atz]
      refine ABW (n:=zN es) (m:=zM es) (es:=es) (ver:=ver) (.inr hk) hw (by omega) (by omega) (by omega) (fun hn r' => ?_) (fun e r' he T' => ?_)
      ·rw [AxB]
       simp -dsimp (disch:=first | assumption | omega | (simp only [Atb];try omega)) only [↓Ate,Ata,Atf,Atd,eq_self,Nat.reduceEqDiff,↓reduceIte,Nat.reduceAdd,↓Atn]
       exact fin hn r'
      ·have hsp:=Avu he
       rw [List.length_cons] at hsp
       rw [(nx e).1,(nx e).2,←Ayc]
       simp -dsimp (disch:=first | assumption | omega | (simp only [Atb];try omega)) only [↓Ate,Atd]
       exact Auj r'.length (by omega) (by simp) ⟨es++[e],r',ver+1,T',rfl,hgo he,by simp; omega,rfl,by rw [List.length_append]; rfl⟩
     ·have hk:Axt c=none:=by
       unfold Axt
       rw [if_neg fun x=>h (congrArg UInt8.toNat x),if_neg fun x=>h' (congrArg UInt8.toNat x),if_neg fun x=>h'' (congrArg UInt8.toNat x)]
      simp -dsimp (disch:=first | assumption | omega | (simp only [Atb];try omega)) only [↓Ate,Ata,Atf,Atd,eq_self,Nat.reduceEqDiff,↓reduceIte,Nat.reduceAdd,AtF,g1,hw2,hc0,h,h',h'',↓Atj,↓Atq,↓AtA,↓Atz]
      refine ABW (n:=zN es) (m:=zM es) (es:=es) (ver:=ver) (.inl ⟨hk,rfl⟩) hw (by omega) (by omega) (by omega) (fun hn r' => ?_) (fun e r' he T' => ?_)
      ·rw [AxB]
       simp -dsimp (disch:=first | assumption | omega | (simp only [Atb];try omega)) only [↓Ate,Ata,Atf,Atd,eq_self,Nat.reduceEqDiff,↓reduceIte,Nat.reduceAdd,↓Atn]
       exact fin hn r'
      ·have hsp:=Avu he
       rw [List.length_cons] at hsp
       rw [(nx e).1,(nx e).2,←Ayc]
       simp -dsimp (disch:=first | assumption | omega | (simp only [Atb];try omega)) only [↓Ate,Atd]
       exact Auj r'.length (by omega) (by simp) ⟨es++[e],r',ver+1,T',rfl,hgo he,by simp; omega,rfl,by rw [List.length_append]; rfl⟩
    ·have g2:zM es<M:=g.elim (fun h=>absurd h g1) id
     rcases hck with h | h | h | ⟨h,h',h''⟩
     ·have hk:Axt c=some 0:=by obtain rfl:c=32:=UInt8.toNat_inj.1 h; rfl
      simp -dsimp (disch:=first | assumption | omega | (simp only [Atb];try omega)) only [↓Ate,Ata,Atf,Atd,eq_self,Nat.reduceEqDiff,↓reduceIte,Nat.reduceAdd,AtF,g1,g2,hw2,hc0,h,↓Atj,↓Atq,↓AtA,↓Atz]
      refine ABW (n:=zN es) (m:=zM es) (es:=es) (ver:=ver) (.inr hk) hw (by omega) (by omega) (by omega) (fun hn r' => ?_) (fun e r' he T' => ?_)
      ·rw [AxB]
       simp -dsimp (disch:=first | assumption | omega | (simp only [Atb];try omega)) only [↓Ate,Ata,Atf,Atd,eq_self,Nat.reduceEqDiff,↓reduceIte,Nat.reduceAdd,↓Atn]
       exact fin hn r'
      ·have hsp:=Avu he
       rw [List.length_cons] at hsp
       rw [(nx e).1,(nx e).2,←Ayc]
       simp -dsimp (disch:=first | assumption | omega | (simp only [Atb];try omega)) only [↓Ate,Atd]
       exact Auj r'.length (by omega) (by simp) ⟨es++[e],r',ver+1,T',rfl,hgo he,by simp; omega,rfl,by rw [List.length_append]; rfl⟩
     ·have hk:Axt c=some 1:=by obtain rfl:c=45:=UInt8.toNat_inj.1 h; rfl
      simp -dsimp (disch:=first | assumption | omega | (simp only [Atb];try omega)) only [↓Ate,Ata,Atf,Atd,eq_self,Nat.reduceEqDiff,↓reduceIte,Nat.reduceAdd,AtF,g1,g2,hw2,hc0,h,↓Atj,↓Atq,↓AtA,↓Atz]
      refine ABW (n:=zN es) (m:=zM es) (es:=es) (ver:=ver) (.inr hk) hw (by omega) (by omega) (by omega) (fun hn r' => ?_) (fun e r' he T' => ?_)
      ·rw [AxB]
       simp -dsimp (disch:=first | assumption | omega | (simp only [Atb];try omega)) only [↓Ate,Ata,Atf,Atd,eq_self,Nat.reduceEqDiff,↓reduceIte,Nat.reduceAdd,↓Atn]
       exact fin hn r'
      ·have hsp:=Avu he
       rw [List.length_cons] at hsp
       rw [(nx e).1,(nx e).2,←Ayc]
       simp -dsimp (disch:=first | assumption | omega | (simp only [Atb];try omega)) only [↓Ate,Atd]
       exact Auj r'.length (by omega) (by simp) ⟨es++[e],r',ver+1,T',rfl,hgo he,by simp; omega,rfl,by rw [List.length_append]; rfl⟩
     ·have hk:Axt c=some 2:=by obtain rfl:c=43:=UInt8.toNat_inj.1 h; rfl
      simp -dsimp (disch:=first | assumption | omega | (simp only [Atb];try omega)) only [↓Ate,Ata,Atf,Atd,eq_self,Nat.reduceEqDiff,↓reduceIte,Nat.reduceAdd,AtF,g1,g2,hw2,hc0,h,↓Atj,↓Atq,↓AtA,↓Atz]
      refine ABW (n:=zN es) (m:=zM es) (es:=es) (ver:=ver) (.inr hk) hw (by omega) (by omega) (by omega) (fun hn r' => ?_) (fun e r' he T' => ?_)
      ·rw [AxB]
       simp -dsimp (disch:=first | assumption | omega | (simp only [Atb];try omega)) only [↓Ate,Ata,Atf,Atd,eq_self,Nat.reduceEqDiff,↓reduceIte,Nat.reduceAdd,↓Atn]
       exact fin hn r'
      ·have hsp:=Avu he
       rw [List.length_cons] at hsp
       rw [(nx e).1,(nx e).2,←Ayc]
       simp -dsimp (disch:=first | assumption | omega | (simp only [Atb];try omega)) only [↓Ate,Atd]
       exact Auj r'.length (by omega) (by simp) ⟨es++[e],r',ver+1,T',rfl,hgo he,by simp; omega,rfl,by rw [List.length_append]; rfl⟩
     ·have hk:Axt c=none:=by
       unfold Axt
       rw [if_neg fun x=>h (congrArg UInt8.toNat x),if_neg fun x=>h' (congrArg UInt8.toNat x),if_neg fun x=>h'' (congrArg UInt8.toNat x)]
      simp -dsimp (disch:=first | assumption | omega | (simp only [Atb];try omega)) only [↓Ate,Ata,Atf,Atd,eq_self,Nat.reduceEqDiff,↓reduceIte,Nat.reduceAdd,AtF,g1,g2,hw2,hc0,h,h',h'',↓Atj,↓Atq,↓AtA,↓Atz]
      refine ABW (n:=zN es) (m:=zM es) (es:=es) (ver:=ver) (.inl ⟨hk,rfl⟩) hw (by omega) (by omega) (by omega) (fun hn r' => ?_) (fun e r' he T' => ?_)
      ·rw [AxB]
       simp -dsimp (disch:=first | assumption | omega | (simp only [Atb];try omega)) only [↓Ate,Ata,Atf,Atd,eq_self,Nat.reduceEqDiff,↓reduceIte,Nat.reduceAdd,↓Atn]
       exact fin hn r'
      ·have hsp:=Avu he
       rw [List.length_cons] at hsp
       rw [(nx e).1,(nx e).2,←Ayc]
       simp -dsimp (disch:=first | assumption | omega | (simp only [Atb];try omega)) only [↓Ate,Atd]
       exact Auj r'.length (by omega) (by simp) ⟨es++[e],r',ver+1,T',rfl,hgo he,by simp; omega,rfl,by rw [List.length_append]; rfl⟩
end
section
open Go.RowKit
variable [AtW]
def hd5 (h:HZ):TV := .agg [i64 (h.at_:Int),i64 (zN h.es:Int),i64 (h.to_:Int),i64 (zM h.es:Int),.sl 2 (h.es.map ez)]
theorem AGi {h:HZ}:hd5 h = .agg [i64 (h.at_:Int),i64 (zN h.es:Int),i64 (h.to_:Int),i64 (zM h.es:Int),.sl 2 (h.es.map ez)]:=by unfold hd5; rfl
theorem ALn {l:List HZ} {x:HZ}:l.map hd5++[TV.agg [i64 (x.at_:Int),i64 (zN x.es:Int),i64 (x.to_:Int),i64 (zM x.es:Int),.sl 2 (x.es.map ez)]]=(l++[x]).map hd5:=by simp [hd5]
theorem ALa {n m:Nat} {s r:List UInt8} {es:List EZ} (h:AHE n m s []=some (es,r)):zN es=n∧zM es=m∧r.length≤s.length∧es.length+r.length≤s.length:=by
 obtain ⟨h1,h2,h3,gs,h4,h5,_⟩:=AIZ n m _ _ _ _ _ (Nat.le_refl _) h
 rw [List.nil_append] at h4
 subst h4
 exact ⟨h2,h3,h1,h5⟩
def HdA (p:List UInt8) (x:TV):Prop:=(∀ hs,ADR p 0 0=some hs→x = .tup [.sl 5 (hs.map hd5),tb true])∧(ADR p 0 0=none→x = .tup [.val (.slice none 0 0),tb false])
theorem AT4 (p:List UInt8) (hp:p.length≤4000):Auy Tryz.prog 18 [slB p] (HdA p):=by
 refine Ato.toPureV (AHB (by simp) ?_)
 simp -dsimp (disch:=first | assumption | omega) only [↓Ate,Ata,Atf,Atd,eq_self,Nat.reduceEqDiff,↓reduceIte,reduceCtorEq,↓Aut]
 refine Av3 (fun q e H=>∃ (hs:List HZ) (r:List UInt8) (v en:Nat) (sh:Int),q=r.length∧ADR p 0 0=(ADR r en sh).map (hs ++ ·)∧hs.length+r.length≤p.length∧en≤1000010000 ∧ -((p.length:Int) - r.length)≤sh∧sh≤(p.length:Int) - r.length ∧
  e=[(4,ts r),(5,.os 5 0 v [] 0 hs.length hs.length),(6,i64 (en:Int)),(7,i64 sh)]∧H=[.obj v (.arr hs.length 5 (hs.map hd5))]) p.length ?_ ?_
 ·exact ⟨[],p,0,0,0,rfl,by cases ADR p 0 0<;>simp,by simp,by omega,by omega,by omega,rfl,rfl⟩
 ·rintro q e H ⟨hs,r,v,en,sh,rfl,hh,hlen,hen,hs0,hs1,rfl,rfl⟩
  by_cases hr:r=[]
  ·subst hr
   rw [AI3] at hh
   simp -dsimp (disch:=first | assumption | omega) only [↓Ate,Ata,Atf,Atd,eq_self,Nat.reduceLT,Nat.reduceEqDiff,↓reduceIte,AtF,↓Aut]
   refine ⟨fun hs' h => ?_,fun h => ?_⟩
   ·rw [hh] at h; cases h; simp
   ·rw [hh] at h; cases h
  ·have hr0:0<r.length:=List.length_pos_iff.2 hr
   simp -dsimp (disch:=first | assumption | omega) only [↓Ate,Ata,Atf,Atd,eq_self,Nat.reduceEqDiff,↓reduceIte,AtF,hr0,↓Aut]
   refine AvI ((AUG r (by omega)).calls rfl fun x hx => ?_)
   obtain ⟨A,n,B,m,r1,rfl,hv,hr1⟩:=hx
   obtain ⟨β,hβ⟩:∃ β,β=(ABi r).isSome:=⟨_,rfl⟩
   rw [←hβ]
   cases hu:ABi r with
   | none =>
    have hn:ADR p 0 0=none:=by rw [hh,AGO hr (by unfold AxC; rw [hu])]; rfl
    rw [hu] at hβ
    obtain rfl:β=false:=hβ
    simp -dsimp (disch:=first | assumption | omega) only [↓Ate,Ata,Atf,Atd,eq_self,Nat.reduceEqDiff,↓reduceIte,Nat.reduceAdd,↓Aut]
    exact ⟨fun hs' h=>(by rw [hn] at h; cases h),fun _=>rfl⟩
   | some t =>
    obtain ⟨⟨A0,N0⟩,⟨B0,M0⟩,r0⟩:=t
    obtain ⟨rfl,rfl,rfl,rfl,rfl⟩:=hv _ _ _ hu
    obtain ⟨_,q1,q2,q3,q4⟩:=AKi hu
    simp only at q1 q2 q3 q4
    rw [hu] at hβ
    obtain rfl:β=true:=hβ
    simp -dsimp (disch:=first | assumption | omega) only [↓Ate,Ata,Atf,Atd,eq_self,Nat.reduceEqDiff,↓reduceIte,Nat.reduceAdd,↓Aut]
    refine AvI ((AVS (A0:Int) (B0:Int) N0 M0 r1 (by omega) q2 q4).calls rfl fun x hx => ?_)
    obtain ⟨es,r2,rfl,hv2⟩:=hx
    obtain ⟨γ,hγ⟩:∃ γ,γ=(AHE N0 M0 r1 []).isSome:=⟨_,rfl⟩
    rw [←hγ]
    cases hn2:AHE N0 M0 r1 [] with
    | none =>
     have hn:ADR p 0 0=none:=by rw [hh,AGO hr (by unfold AxC; rw [hu]; simp only; rw [hn2])]; rfl
     rw [hn2] at hγ
     obtain rfl:γ=false:=hγ
     simp -dsimp (disch:=first | assumption | omega) only [↓Ate,Ata,Atf,Atd,eq_self,Nat.reduceEqDiff,↓reduceIte,Nat.reduceAdd,↓Aut]
     exact ⟨fun hs' h=>(by rw [hn] at h; cases h),fun _=>rfl⟩
    | some t2 =>
     obtain ⟨es0,r0⟩:=t2
     obtain ⟨rfl,rfl⟩:=hv2 _ _ hn2
     rw [hn2] at hγ
     obtain rfl:γ=true:=hγ
     have hku:AxC r=some (⟨A0,B0,es⟩,r2):=by unfold AxC; rw [hu]; simp only; rw [hn2]
     rw [ALj hr hku] at hh
     simp only at hh
     obtain ⟨k1,k2,k3,k4⟩:=ALa hn2
     subst k1
     subst k2
     have hl:=AEf hku
     simp only at hl
     have hzn:=AOx es
     have hzm:=APf es
     by_cases hb1:(A0:Int)<(en:Int)
     ·have hn:ADR p 0 0=none:=by rw [hh,if_pos (.inl (by omega))]; rfl
      simp -dsimp (disch:=first | assumption | omega) only [↓Ate,Ata,Atf,Atd,eq_self,Nat.reduceEqDiff,↓reduceIte,Nat.reduceAdd,↓Aut,hb1]
      exact ⟨fun hs' h=>(by rw [hn] at h; cases h),fun _=>rfl⟩
     by_cases hb2:(B0:Int)=(A0:Int)+sh
     case neg =>
      have hn:ADR p 0 0=none:=by rw [hh,if_pos (.inr hb2)]; rfl
      simp -dsimp (disch:=first | assumption | omega) only [↓Ate,Ata,Atf,Atd,eq_self,Nat.reduceEqDiff,↓reduceIte,Nat.reduceAdd,↓Aut,hb1,hb2]
      exact ⟨fun hs' h=>(by rw [hn] at h; cases h),fun _=>rfl⟩
     rw [if_neg (by intro h; exact h.elim (fun h=>hb1 (by omega)) fun h=>h hb2)] at hh
     have hbt:((B0:Int)=(A0:Int)+sh)=True:=eq_true hb2
     have hl1:∀ (x:TV),[x].length=1:=fun x=>rfl
     have em:hs.map hd5++[TV.agg [i64 (A0:Int),i64 (zN es:Int),i64 (B0:Int),i64 (zM es:Int),.sl 2 (es.map ez)]]=(hs++[(⟨A0,B0,es⟩:HZ)]).map hd5:=ALn (x:=(⟨A0,B0,es⟩:HZ))
     simp -dsimp (disch:=first | assumption | omega) only [↓Ate,Ata,Atf,Atd,eq_self,Nat.reduceEqDiff,↓reduceIte,Nat.reduceAdd,Nat.reduceLeDiff,↓Aut,hb1,hbt,AxO,hl1,em]
     refine Au8 r2.length 1 (by omega) (by simp) rfl ?_ ⟨hs++[(⟨A0,B0,es⟩:HZ)],r2,v+1,A0+zN es,sh+zM es - zN es,rfl,?_,?_,by omega,by omega,by omega,?_,?_⟩
     ·show (AAN 1 _ && true)=true
      simp [AAN,Avj]
     ·rw [hh]
      cases ADR r2 (A0+zN es) (sh+zM es - zN es)<;>simp
     ·simp; omega
     ·simp
      rfl
     ·simp
end
section
open Go.RowKit
variable [AtW]
theorem APJ {x y:List (List UInt8)} {a0 i v:Nat} {hs:List HZ} {g:HZ} {G0:Env} (hgi:hs[i]?=some g) (hi:i≤4000) (hx:x.length≤4000) (hes:g.es.length≤4000) (hy:y.length≤100000) (ha:a0≤x.length) {Q:VEx→Env→List Ob→Prop}
  (hno:apE x a0 g.es=none→∀ H',Q .ret [(4,.val (.slice none 0 0)),(5,i64 ((91:Nat):Int))] H')
  (hyes:∀ o z a' v' G T,apE x a0 g.es=some (o,a')→z=y++o→Q .nor ([(6,.sl 5 (hs.map hd5)),(8,slS x),(9,.os 1 0 v' [] 0 z.length z.length),(10,i64 (a':Int)),(11,i64 (i:Int))]++G) (.obj v' (.arr z.length 1 (z.map ts))::T)) :
  vwp Tryz.prog Axq Q ((6,.sl 5 (hs.map hd5))::(8,slS x)::(9,.os 1 0 v [] 0 y.length y.length)::(10,i64 (a0:Int))::(11,i64 (i:Int))::G0) [.obj v (.arr y.length 1 (y.map ts))]:=by
 obtain ⟨es,hges⟩:∃ es,es=g.es:=⟨_,rfl⟩
 rw [←hges] at hno hyes hes
 have hlE:(g.es.map ez).length=es.length:=by rw [hges]; simp
 simp -dsimp (disch:=first | assumption | omega) only [↓Ate,Ata,Atf,Atd,eq_self,Nat.reduceEqDiff,↓reduceIte,↓AtY]
 refine Av3 (fun q e H=>∃ (k a v:Nat) (o z:List (List UInt8)),q=es.length - k∧k≤es.length∧a≤x.length∧o.length≤k∧z=y++o∧apE x a0 es=(apE x a (es.drop k)).map (fun p=>(o++p.1,p.2)) ∧
  e=[(6,.sl 5 (hs.map hd5)),(8,slS x),(9,.os 1 0 v [] 0 z.length z.length),(10,i64 (a:Int)),(11,i64 (i:Int)),(12,i64 (k:Int))]∧H=[.obj v (.arr z.length 1 (z.map ts))]) es.length ?_ ?_
 ·exact ⟨0,a0,v,[],y,rfl,by omega,ha,by simp,by simp,by cases h:apE x a0 es<;>simp [h],rfl,rfl⟩
 ·rintro q e H ⟨k,a,v,o,z,rfl,hk,hax,hok,hz,hE,rfl,rfl⟩
  have hzl:z.length=y.length+o.length:=by rw [hz,List.length_append]
  by_cases h:k<es.length
  case neg =>
   have hke:es.drop k=[]:=List.drop_eq_nil_of_le (by omega)
   rw [hke,apE] at hE
   clear hzl
   simp -dsimp (disch:=first | assumption | omega) only [↓Ate,Ata,Atf,Atd,eq_self,Nat.reduceEqDiff,↓reduceIte,Nat.reduceAdd,hgi,AGi,←hges,↓AtY]
   exact hyes o z a v [_,_] [] (by rw [hE]; simp) hz
  obtain ⟨d,hd⟩:∃ d,es[k]?=some d:=⟨_,List.getElem?_eq_getElem h⟩
  have hdr:es.drop k=d::es.drop (k+1):=by
   obtain ⟨_,rfl⟩:=List.getElem?_eq_some_iff.1 hd
   exact List.drop_eq_getElem_cons h
  rw [hdr,apE] at hE
  have hb2:∀ (l:List (List UInt8)) (v:Nat),ABN 1 [.obj v (.arr l.length 1 (l.map ts))]=true:=fun l v=>rfl
  have elz:z.length+1=(z++[d.2]).length:=by simp
  have hz2:z++[d.2]=y++(o++[d.2]):=by rw [hz,List.append_assoc]
  clear hzl
  have hzb:z.length≤104000:=by rw [hz,List.length_append]; omega
  by_cases h2:d.1=2
  ·rw [if_neg (fun c=>c.1 h2)] at hE
   have h1:¬ d.1=1:=by omega
   have hE2:apE x a0 es=(apE x a (es.drop (k+1))).map (fun p=>(o++[d.2]++p.1,p.2)):=by
    rw [hE,if_neg (fun c=>c h2),Option.map_map]
    congr 1
    funext p
    simp [h1]
   simp -dsimp (disch:=first | assumption | omega) only [↓Ate,Ata,Atf,Atd,eq_self,Nat.reduceEqDiff,↓reduceIte,Nat.reduceAdd,Nat.reduceLeDiff,↓AtY,hgi,AGi,←hges,hd,ADZ,h2,AxO,AwA]
   rw [elz]
   exact Au8 (es.length - (k+1)) 1 (by omega) (by simp) rfl (hb2 _ _) ⟨k+1,a,v+1,o++[d.2],z++[d.2],rfl,by omega,by omega,by simp; omega,hz2,hE2,rfl,rfl⟩
  ·by_cases hxa:x[a]?=some d.2
   case neg =>
    rw [if_pos ⟨h2,hxa⟩] at hE
    have hnone:apE x a0 es=none:=by rw [hE]; rfl
    by_cases hal:x.length≤a
    ·simp -dsimp (disch:=first | assumption | omega) only [↓Ate,Ata,Atf,Atd,eq_self,Nat.reduceEqDiff,↓reduceIte,Nat.reduceAdd,↓AtY,hgi,AGi,←hges,hd,ADZ,hal]
     exact hno hnone _
    ·obtain ⟨w,hw⟩:∃ w,x[a]?=some w:=⟨_,List.getElem?_eq_getElem (by omega)⟩
     have hwg:¬ w=d.2:=fun e=>hxa (by rw [hw,e])
     simp -dsimp (disch:=first | assumption | omega) only [↓Ate,Ata,Atf,Atd,eq_self,Nat.reduceEqDiff,↓reduceIte,Nat.reduceAdd,↓AtY,hgi,AGi,←hges,hd,ADZ,hal,hw,hwg]
     exact hno hnone _
   rw [if_neg (fun c=>c.2 hxa)] at hE
   have hal2:=(List.getElem?_eq_some_iff.1 hxa).1
   have hal:¬ x.length≤a:=by omega
   by_cases h1:d.1=1
   ·have hE2:apE x a0 es=(apE x (a+1) (es.drop (k+1))).map (fun p=>(o++p.1,p.2)):=by
     rw [hE,if_pos h2,Option.map_map]
     congr 1
     funext p
     simp [h1]
    simp -dsimp (disch:=first | assumption | omega) only [↓Ate,Ata,Atf,Atd,eq_self,Nat.reduceEqDiff,↓reduceIte,Nat.reduceAdd,↓AtY,hgi,AGi,←hges,hd,ADZ,h1,hal,hxa]
    exact Au8 (es.length - (k+1)) 1 (by omega) (by simp) rfl (hb2 _ _) ⟨k+1,a+1,v,o,z,rfl,by omega,by omega,by omega,hz,hE2,rfl,rfl⟩
   ·have hE2:apE x a0 es=(apE x (a+1) (es.drop (k+1))).map (fun p=>(o++[d.2]++p.1,p.2)):=by
     rw [hE,if_pos h2,Option.map_map]
     congr 1
     funext p
     simp [h1]
    simp -dsimp (disch:=first | assumption | omega) only [↓Ate,Ata,Atf,Atd,eq_self,Nat.reduceEqDiff,↓reduceIte,Nat.reduceAdd,Nat.reduceLeDiff,↓AtY,hgi,AGi,←hges,hd,ADZ,hal,hxa,AxO,AwA]
    rw [elz]
    exact Au8 (es.length - (k+1)) 1 (by omega) (by simp) rfl (hb2 _ _) ⟨k+1,a+1,v+1,o++[d.2],z++[d.2],rfl,by omega,by omega,by simp; omega,hz2,hE2,rfl,rfl⟩
end
section
open Go.RowKit
variable [AtW]
structure Axu (l:List UInt8) (ls:List (List UInt8)) (f k:Nat):Prop where
 fk:f≤k
 kn:k≤l.length
 eq:Atp l=ls++lin ((l.take k).drop f) (l.drop k)
 ln:ls.length≤k
 last:k=l.length→f=k
theorem Axu.start (l:List UInt8):Axu l [] 0 0:=⟨by omega,by omega,by simp [Atp],by simp,fun _=>rfl⟩
theorem Axu.goes {l:List UInt8} {ls:List (List UInt8)} {f k:Nat} (h:Axu l ls f k) (hk:k<l.length) (h10:l[k]≠10) (hl:k+1≠l.length):Axu l ls f (k+1):=by
 have fk:=h.fk
 have hfl:f≤(l.take k).length:=by rw [List.length_take]; omega
 refine ⟨by omega,by omega,?_,by have:=h.ln; omega,fun e=>absurd e hl⟩
 rw [h.eq,List.drop_eq_getElem_cons hk,lin,if_neg h10]
 congr 2
 rw [List.take_succ_eq_append_getElem hk,List.drop_append_of_le_length hfl]
theorem Axu.ends {l:List UInt8} {ls:List (List UInt8)} {f k:Nat} (h:Axu l ls f k) (hk:k<l.length) (he:l[k]=10∨k+1=l.length):Axu l (ls++[(l.drop f).take (k+1 - f)]) (k+1) (k+1):=by
 have fk:=h.fk
 have hfl:f≤(l.take k).length:=by rw [List.length_take]; omega
 rw [←List.drop_take]
 have e:(l.take (k+1)).drop f=(l.take k).drop f++[l[k]]:=by
  rw [List.take_succ_eq_append_getElem hk,List.drop_append_of_le_length hfl]
 refine ⟨by omega,by omega,?_,by have:=h.ln; simp; omega,fun _=>rfl⟩
 have e0:(l.take (k+1)).drop (k+1)=[]:=List.drop_eq_nil_of_le (by simp; omega)
 rw [h.eq,List.drop_eq_getElem_cons hk,e0,e,lin,List.append_assoc]
 generalize l[k]=z at *
 by_cases h10:z=10
 ·rw [if_pos h10]; rfl
 ·have hl:k+1=l.length:=he.resolve_left h10
  rw [if_neg h10,show l.drop (k+1)=[] from List.drop_eq_nil_of_le (by omega)]
  simp [lin]
theorem Axu.done {l:List UInt8} {ls:List (List UInt8)} {f k:Nat} (h:Axu l ls f k) (hk:¬ k<l.length):Atp l=ls:=by
 have h3:=List.length_take_le k l
 have hkn:=h.kn
 have e:k=l.length:=by omega
 have hf:=h.last e
 rw [h.eq,show l.drop k=[] from List.drop_eq_nil_of_le (by omega),show (l.take k).drop f=[] from List.drop_eq_nil_of_le (by omega)]
 simp [lin]
theorem ASM (l:List UInt8) (hl:l.length≤4000):Auy Tryz.prog 19 [slB l] (fun x=>x=slS (Atp l)):=by
 refine Ato.toPureV (AHT (by simp) ?_)
 simp -dsimp (disch:=first | assumption | omega) only [↓Ate,Ata,Atf,Atd,eq_self,Nat.reduceEqDiff,↓reduceIte,reduceCtorEq,↓Avo]
 refine Av3 (fun m e H=>∃ (k f v:Nat) (ls:List (List UInt8)),m=l.length - k∧Axu l ls f k∧e=[(0,slB l),(3,.os 1 0 v [] 0 ls.length ls.length),(4,i64 (f:Int)),(5,i64 (k:Int))]∧H=[.obj v (.arr ls.length 1 (ls.map ts))]) l.length ?_ ?_
 ·exact ⟨0,0,0,[],by simp,Axu.start l,rfl,rfl⟩
 ·rintro m e H ⟨k,f,v,ls,rfl,hc,rfl,rfl⟩
  have hfk:=hc.fk
  have hkn:=hc.kn
  have hln:=hc.ln
  by_cases hk:k<l.length
  ·have hgk:l[k]?=some l[k]:=by simp [hk]
   simp -dsimp (disch:=first | assumption | omega) only [↓Ate,Ata,Atf,Atd,eq_self,Nat.reduceEqDiff,↓reduceIte,reduceCtorEq,↓Avo,hgk]
   refine AHh (fun h10 => ?_) (fun h10 => ?_)
   ·have h10':l[k]=10:=UInt8.toNat_inj.1 (by have:((10:UInt8).toNat)=10:=rfl; omega)
    have he2:=hc.ends hk (.inl h10')
    simp -dsimp (disch:=first | assumption | omega) only [↓Ate,Ata,Atf,Atd,eq_self,Nat.reduceEqDiff,↓reduceIte,reduceCtorEq,Nat.reduceLeDiff,↓Avo,AxO,AwA]
    exact Au8 (l.length - (k+1)) 1 (by omega) (by omega) rfl rfl ⟨k+1,k+1,v+1,_,rfl,he2,by simp<;>rfl,by simp⟩
   ·have h10':¬ l[k]=10:=fun e=>h10 (by rw [e]; rfl)
    simp -dsimp (disch:=first | assumption | omega) only [↓Ate,Ata,Atf,Atd,eq_self,Nat.reduceEqDiff,↓reduceIte,reduceCtorEq,↓Avo]
    refine AHh (fun hke => ?_) (fun hke => ?_)
    ·have he2:=hc.ends hk (.inr (by omega))
     simp -dsimp (disch:=first | assumption | omega) only [↓Ate,Ata,Atf,Atd,eq_self,Nat.reduceEqDiff,↓reduceIte,reduceCtorEq,Nat.reduceLeDiff,↓Avo,AxO,AwA]
     exact Au8 (l.length - (k+1)) 1 (by omega) (by omega) rfl rfl ⟨k+1,k+1,v+1,_,rfl,he2,by simp<;>rfl,by simp⟩
    ·have he2:=hc.goes hk h10' (by omega)
     simp -dsimp (disch:=first | assumption | omega) only [↓Ate,Ata,Atf,Atd,eq_self,Nat.reduceEqDiff,↓reduceIte,reduceCtorEq]
     exact Auj (l.length - (k+1)) (by omega) (by simp) ⟨k+1,f,v,_,rfl,he2,rfl,rfl⟩
  ·have hd:=hc.done hk
   simp -dsimp (disch:=first | assumption | omega) only [↓Ate,Ata,Atf,Atd,eq_self,Nat.reduceEqDiff,↓reduceIte,reduceCtorEq,↓Avo,hd]
end
section
open Go.RowKit
variable [AtW]
def RpA (a p:List UInt8) (x:TV):Prop:=(∀ b,AuU a p = .yes b→x = .tup [slB b,i64 ((0:Nat):Int)])∧(∀ e,AuU a p = .no e→x = .tup [.val (.slice none 0 0),i64 (e:Int)])
theorem AEK {l:List UInt8}:∀ {ls:List (List UInt8)},l∈ls→l.length≤ls.flatten.length
 | a::ls,h=>by
  rw [List.flatten_cons,List.length_append]
  rcases List.mem_cons.1 h with rfl | h
  ·omega
  ·have:=AEK h; omega
theorem AOF {g:HZ}:∀ {hs:List HZ},g∈hs→g.es.length≤(hs.flatMap (·.es)).length
 | a::hs,h=>by
  rw [List.flatMap_cons,List.length_append]
  rcases List.mem_cons.1 h with rfl | h
  ·omega
  ·have:=AOF h; omega
theorem AIy {M:Nat}:∀ {ls:List (List UInt8)},(∀ l∈ls,l.length≤M)→ls.flatten.length≤ls.length*M
 | [],_=>by simp
 | a::ls,h=>by
  rw [List.flatten_cons,List.length_append,List.length_cons,Nat.add_mul]
  have:=AIy (ls:=ls) fun l hl=>h l (by simp [hl])
  have:=h a (by simp)
  omega
theorem ARL {a p:List UInt8} {y:List (List UInt8)} {v:Nat} {T:List Ob} (hy:y.length≤100000) (hm:∀ l∈y,l.length≤10000∧l≠[]) (hfl:y.flatten.length≤100000000000) (hyes:AKL y→AuU a p = .yes y.flatten) (hno:¬ AKL y→AuU a p = .no 91) :
  vwp Tryz.prog AwF (AHv Az6 fun x H'=>At3 (Avs H' (AMb H' 2) x) (RpA a p)) [(9,.os 1 0 v [] 0 y.length y.length)] (.obj v (.arr y.length 1 (y.map ts))::T):=by
 simp -dsimp (disch:=first | assumption | omega) only [↓Ate,Ata,Atf,Atd,eq_self,Nat.reduceEqDiff,↓reduceIte,↓AtY]
 refine Av3 (fun q e H=>∃ i:Nat,q=y.length - i∧i≤y.length∧(∀ j l,j<i→y[j]?=some l→j+1<y.length→l.getLast?=some 10)∧e=[(9,.os 1 0 v [] 0 y.length y.length),(14,ts (y.take i).flatten),(15,i64 (i:Int))]∧H = .obj v (.arr y.length 1 (y.map ts))::T) y.length ?_ ?_
 ·exact ⟨0,rfl,by omega,by omega,rfl,rfl⟩
 ·rintro q e H ⟨i,rfl,hi,hpre,rfl,rfl⟩
  have hfi:(y.take i).flatten.length≤y.flatten.length:=by
   conv=>rhs; rw [←List.take_append_drop i y,List.flatten_append,List.length_append]
   omega
  by_cases h:i<y.length
  case neg =>
   have hen:AKL y:=fun j l hl hj=>hpre j l (by omega) hl hj
   have hk:=hyes hen
   have hie:y.take i=y:=List.take_of_length_le (by omega)
   have hgt:∀ (o1 o:Ob),(o1::(T++[o]))[T.length+1]?=some o:=fun o1 o=>by simp
   rw [hie] at hfi ⊢
   simp -dsimp (disch:=first | assumption | omega | (simp only [Atb];try omega)) only [↓Ate,Ata,Atf,Atd,eq_self,Nat.reduceEqDiff,↓reduceIte,AtF,hgt,↓AtY]
   exact ⟨fun b h=>(by rw [hk] at h; cases h; rfl),fun e h=>(by rw [hk] at h; cases h)⟩
  obtain ⟨w,hw⟩:∃ w,y[i]?=some w:=⟨_,List.getElem?_eq_getElem h⟩
  obtain ⟨hwl,hwn⟩:=hm w (List.mem_of_getElem? hw)
  have hw0:0<w.length:=List.length_pos_iff.2 hwn
  obtain ⟨b,hb⟩:∃ b,w[w.length - 1]?=some b:=⟨_,List.getElem?_eq_getElem (by omega)⟩
  have hlast:w.getLast?=some b:=by rw [List.getLast?_eq_getElem?]; exact hb
  have nxt:(i+1<y.length→w.getLast?=some 10)→∀ j l,j<i+1→y[j]?=some l→j+1<y.length→l.getLast?=some 10:=fun hq j l hj hl hj2=>by
   by_cases hji:j=i
   ·subst hji; rw [hw] at hl; cases hl; exact hq hj2
   ·exact hpre j l (by omega) hl hj2
  have htk:(y.take (i+1)).flatten=(y.take i).flatten++w:=by
   obtain ⟨_,rfl⟩:=List.getElem?_eq_some_iff.1 hw
   rw [List.take_succ_eq_append_getElem h,List.flatten_append,List.flatten_cons,List.flatten_nil,List.append_nil]
  have hcat:w.length+(y.take i).flatten.length≤9223372036854775807:=by omega
  have hcat2:(y.take i).flatten.length+w.length≤9223372036854775807:=by omega
  by_cases h2:b.toNat=10
  ·have hb10:b=10:=UInt8.toNat_inj.1 h2
   subst hb10
   simp -dsimp (disch:=first | assumption | omega | (simp only [Atb];try omega)) only [↓Ate,Ata,Atf,Atd,eq_self,Nat.reduceEqDiff,UInt8.reduceToNat,↓reduceIte,AtF,↓AuZ,↓AuX,hw,hb,AUp]
   exact Auj (y.length - (i+1)) (by omega) (by simp) ⟨i+1,rfl,by omega,nxt (fun _=>hlast),by rw [htk]; rfl,rfl⟩
  ·by_cases h1:i+1<y.length
   case neg =>
    simp -dsimp (disch:=first | assumption | omega | (simp only [Atb];try omega)) only [↓Ate,Ata,Atf,Atd,eq_self,Nat.reduceEqDiff,↓reduceIte,AtF,↓AuZ,↓AuX,hw,hb,h2,h1,AUp]
    exact Auj (y.length - (i+1)) (by omega) (by simp) ⟨i+1,rfl,by omega,nxt (fun hq=>absurd hq h1),by rw [htk]; rfl,rfl⟩
   ·have hn:=hno fun hen=>by
     have:=hen i w hw h1
     rw [hlast] at this
     cases this
     exact h2 rfl
    simp -dsimp (disch:=first | assumption | omega | (simp only [Atb];try omega)) only [↓Ate,Ata,Atf,Atd,eq_self,Nat.reduceEqDiff,↓reduceIte,AtF,↓AuZ,↓AuX,hw,hb,h2,h1,↓AxZ]
    exact ⟨fun b h=>by rw [hn] at h; (cases h),fun e h=>by rw [hn] at h; (cases h); rfl⟩
theorem AUg (a p:List UInt8) (ha:a.length≤4000) (hp:p.length≤4000):Auy Tryz.prog 8 [slB a,slB p] (RpA a p):=by
 refine Ato.toPureV (AHY (by simp) ?_)
 simp -dsimp (disch:=first | assumption | omega) only [↓Ate,Ata,Atf,Atd,eq_self,Nat.reduceEqDiff,↓reduceIte,Nat.reduceAdd,reduceCtorEq,↓AtY]
 refine AvI ((AT4 p hp).calls rfl fun x hx => ?_)
 cases hh:ADR p 0 0 with
 | none =>
  rw [hx.2 hh]
  have hn:AuU a p = .no 90:=by unfold AuU; rw [hh]
  simp -dsimp (disch:=first | assumption | omega) only [↓Ate,Ata,Atf,Atd,eq_self,Nat.reduceEqDiff,↓reduceIte,reduceCtorEq,↓AtY]
  exact ⟨fun b h=>by rw [hn] at h; (cases h),fun e h=>by rw [hn] at h; (cases h); rfl⟩
 | some hs =>
  rw [hx.1 hs hh]
  clear hx
  obtain ⟨o1,o2,o3,o4⟩:=AGN _ p 0 0 hs (Nat.le_refl _) hh
  have hxl:=AyF a
  simp -dsimp (disch:=first | assumption | omega) only [↓Ate,Ata,Atf,Atd,eq_self,Nat.reduceEqDiff,↓reduceIte,reduceCtorEq,↓AtY]
  refine AvI ((ASM a (by omega)).calls rfl fun x hx => ?_)
  subst hx
  simp -dsimp (disch:=first | assumption | omega) only [↓Ate,Ata,Atf,Atd,eq_self,Nat.reduceEqDiff,↓reduceIte,reduceCtorEq,↓AtY]
  refine Av3 (fun q e H=>∃ (i at_ v:Nat) (z:List (List UInt8)),q=hs.length - i∧i≤hs.length∧at_≤(Atp a).length∧apH (Atp a) 0 hs=(apH (Atp a) at_ (hs.drop i)).map (z ++ ·)∧AZf at_ (hs.drop i)∧z.length+((hs.drop i).flatMap (·.es)).length≤at_+p.length∧(∀ l∈z,l.length≤10000∧l≠[]) ∧
   e=[(6,.sl 5 (hs.map hd5)),(8,slS (Atp a)),(9,.os 1 0 v [] 0 z.length z.length),(10,i64 (at_:Int)),(11,i64 (i:Int))]∧H=[.obj v (.arr z.length 1 (z.map ts))]) hs.length ?_ ?_
  ·exact ⟨0,0,0,[],rfl,by omega,by omega,by rw [List.drop_zero]; simp,o1,by simpa using o2,by simp,rfl,rfl⟩
  ·rintro q e H ⟨i,at_,v,z,rfl,hi,hat,hA,hO,hZ,hM,rfl,rfl⟩
   by_cases h:i<hs.length
   case neg =>
    have hd:hs.drop i=[]:=List.drop_eq_nil_of_le (by omega)
    rw [hd,apH] at hA
    rw [hd] at hZ
    simp only [List.flatMap_nil,List.length_nil] at hZ
    have hdl:((Atp a).drop at_).length=(Atp a).length - at_:=List.length_drop ..
    have hzl:z.length+((Atp a).length - at_)=(z++(Atp a).drop at_).length:=by rw [List.length_append,hdl]
    have hmap:z.map ts++((Atp a).drop at_).map ts=(z++(Atp a).drop at_).map ts:=by rw [List.map_append]
    simp -dsimp (disch:=first | assumption | omega | (simp only [Atb];try omega)) only [↓Ate,Ata,Atf,Atd,eq_self,Nat.reduceEqDiff,↓reduceIte,↓Avv,↓AxN,hdl]
    rw [hzl,hmap]
    have hyl:(z++(Atp a).drop at_).length≤8000:=by rw [←hzl]; omega
    have hyM:∀ l∈z++(Atp a).drop at_,l.length≤10000∧l≠[]:=fun l hl=>by
     rcases List.mem_append.1 hl with hl | hl
     ·exact hM l hl
     ·have:=AEK (List.mem_of_mem_drop hl)
      rw [AvA] at this
      exact ⟨by omega,AOC a [] l (List.mem_of_mem_drop hl)⟩
    have hfl:=AIy fun l hl=>(hyM l hl).1
    refine ARL (by omega) hyM (by omega) (fun hen => ?_) (fun hen => ?_)
    ·unfold AuU; rw [hh]; simp only; rw [hA]; simp only [Option.map_some]; rw [if_pos hen]
    ·unfold AuU; rw [hh]; simp only; rw [hA]; simp only [Option.map_some]; rw [if_neg hen]
   ·obtain ⟨g,hg⟩:∃ g,hs[i]?=some g:=⟨_,List.getElem?_eq_getElem h⟩
    have hdr:hs.drop i=g::hs.drop (i+1):=by
     obtain ⟨_,rfl⟩:=List.getElem?_eq_some_iff.1 hg
     exact List.drop_eq_getElem_cons h
    rw [hdr,apH] at hA
    rw [hdr] at hO hZ
    obtain ⟨q1,q2⟩:=hO
    by_cases hgt:(Atp a).length<g.at_
    ·rw [if_pos hgt] at hA
     have hn:AuU a p = .no 91:=by unfold AuU; rw [hh]; simp only; rw [hA]; rfl
     simp -dsimp (disch:=first | assumption | omega) only [↓Ate,Ata,Atf,Atd,eq_self,Nat.reduceEqDiff,↓reduceIte,↓AtY,hg,AGi,hgt]
     exact ⟨fun b h=>by rw [hn] at h; (cases h),fun e h=>by rw [hn] at h; (cases h); rfl⟩
    ·rw [if_neg hgt] at hA
     have hml:(List.take (g.at_ - at_) (List.drop at_ (Atp a))).length=g.at_ - at_:=by simp; omega
     have hzl:z.length+(g.at_ - at_)=(z++List.take (g.at_ - at_) (List.drop at_ (Atp a))).length:=by rw [List.length_append,hml]
     simp -dsimp (disch:=first | assumption | omega | (simp only [Atb];try omega)) only [↓Ate,Ata,Atf,Atd,eq_self,Nat.reduceEqDiff,↓reduceIte,↓Avv,↓AxM,↓Ayo,↓Ayz,hg,AGi,hgt,hml]
     have hmap:z.map ts++(List.take (g.at_ - at_) (List.drop at_ (Atp a))).map ts=(z++List.take (g.at_ - at_) (List.drop at_ (Atp a))).map ts:=by rw [List.map_append]
     have hgm:g∈hs:=List.mem_of_getElem? hg
     have hge:=AOF hgm
     rw [List.flatMap_cons,List.length_append] at hZ
     have hmd:(List.take g.at_ (Atp a)).drop at_=List.take (g.at_ - at_) (List.drop at_ (Atp a)):=List.drop_take ..
     rw [hmd] at hA
     rw [hzl,hmap]
     generalize hmid:List.take (g.at_ - at_) (List.drop at_ (Atp a))=mid at *
     have hmM:∀ l∈mid,l.length≤10000∧l≠[]:=fun l hl=>by
      rw [←hmid] at hl
      have hl2:=List.mem_of_mem_drop (List.mem_of_mem_take hl)
      have:=AEK hl2
      rw [AvA] at this
      exact ⟨by omega,AOC a [] l hl2⟩
     refine APJ hg (by omega) (by omega) (by omega) (by rw [List.length_append]; omega) (by omega) (fun hnone H' => ?_) (fun o zz a' v' G T hE hzz => ?_)
     ·rw [hnone] at hA
      have hn:AuU a p = .no 91:=by unfold AuU; rw [hh]; simp only; rw [hA]; rfl
      simp -dsimp (disch:=first | assumption | omega | (simp only [Atb];try omega)) only [↓Ate,Ata,Atf,Atd,eq_self,Nat.reduceEqDiff,↓reduceIte,↓AxZ]
      exact ⟨fun b h=>(by rw [hn] at h; cases h),fun e h=>(by rw [hn] at h; cases h; rfl)⟩
     ·obtain ⟨e1,e2,e3,e4⟩:=ALK hE
      rw [hE] at hA
      simp -dsimp (disch:=first | assumption | omega | (simp only [Atb];try omega)) only [↓Ate,Ata,Atf,Atd,eq_self,Nat.reduceEqDiff,↓reduceIte,↓AxP]
      have hzzl:zz.length=z.length+mid.length+o.length:=by rw [hzz,List.length_append,List.length_append]
      refine Au8 (hs.length - (i+1)) 1 (by omega) (by simp) rfl rfl ⟨i+1,a',v',zz,rfl,by omega,e3 (by omega),?_,by rw [e1]; exact q2,by omega,?_,rfl,rfl⟩
      ·rw [hA]
       simp only
       rw [Option.map_map]
       congr 1
       funext w
       simp [hzz]
      ·intro l hl
       rw [hzz] at hl
       rcases List.mem_append.1 hl with hl | hl
       ·rcases List.mem_append.1 hl with hl | hl
        ·exact hM l hl
        ·exact hmM l hl
       ·obtain ⟨e,he,rfl⟩:=e4 l hl
        have:=(o4 g hgm).2 e he
        exact ⟨by omega,this.2.1⟩
end
section
open Go.RowKit
variable [AtW]
theorem APp {l m:List UInt8} {k:Nat} (h:l.take k=m.take k) (h1:k<l.length) (h2:k<m.length) (e:l[k]=m[k]):l.take (k+1)=m.take (k+1):=by
 rw [List.take_succ_eq_append_getElem h1,List.take_succ_eq_append_getElem h2,h,e]
theorem A0Q {x y:UInt8} (h:x≠y):¬ (x.toNat=y.toNat):=fun e=>h (UInt8.toNat_inj.1 e)
theorem same (l m:List UInt8) (hl:l.length≤9223372036854775807) (hm:m.length≤9223372036854775807):Auy Tryz.prog 9 [slB l,slB m] (fun x=>x=tb (decide (l=m))):=by
 refine Ato.toPureV (AJW (by simp) ?_)
 by_cases hlen:l.length=m.length
 case neg =>
  have hne:l≠m:=fun e=>hlen (by rw [e])
  simp -dsimp (disch:=first | assumption | omega) only [↓Ate,Ata,Atf,Atd,eq_self,Nat.reduceEqDiff,↓reduceIte,Nat.reduceAdd,reduceCtorEq,↓AxY,decide_eq_false hne]
 simp -dsimp (disch:=first | assumption | omega) only [↓Ate,Ata,Atf,Atd,eq_self,Nat.reduceEqDiff,↓reduceIte,Nat.reduceAdd,reduceCtorEq,↓AxY]
 refine Av3 (fun n e H=>∃ (k:Nat),n=l.length - k∧k≤l.length∧l.take k=m.take k∧e=[(0,slB l),(1,slB m),(5,i64 (k:Int))]∧H=[]) l.length ?_ ?_
 ·exact ⟨0,by simp,by omega,by simp,rfl,rfl⟩
 ·rintro n e H ⟨k,rfl,hk,ht,rfl,rfl⟩
  by_cases hkl:k<l.length
  ·have hkm:k<m.length:=by omega
   have g1:l[k]?=some l[k]:=by simp [hkl]
   have g2:m[k]?=some m[k]:=by simp [hkm]
   by_cases he:l[k]=m[k]
   ·have hx:=APp ht hkl hkm he
    have he':l[k].toNat=m[k].toNat:=by rw [he]
    simp -dsimp (disch:=first | assumption | omega) only [↓Ate,Ata,Atf,Atd,eq_self,Nat.reduceEqDiff,↓reduceIte,reduceCtorEq,↓AxY,g1,g2]
    exact Auj (l.length - (k+1)) (by omega) (by simp) ⟨k+1,rfl,by omega,hx,rfl,rfl⟩
   ·have he':=A0Q he
    have hne:l≠m:=fun e=>he (by subst e; rfl)
    simp -dsimp (disch:=first | assumption | omega) only [↓Ate,Ata,Atf,Atd,eq_self,Nat.reduceEqDiff,↓reduceIte,reduceCtorEq,↓AxY,g1,g2,decide_eq_false hne]
  ·have hke:k=l.length:=by omega
   have heq:l=m:=by rw [hke,List.take_length,hlen,List.take_length] at ht; exact ht
   simp -dsimp (disch:=first | assumption | omega) only [↓Ate,Ata,Atf,Atd,eq_self,Nat.reduceEqDiff,↓reduceIte,reduceCtorEq,↓AxY,decide_eq_true heq]
theorem AWf (l:List UInt8) (hl:l.length≤1000000) {H:List Ob} {K:TV→List Ob→Prop} (hk:K (.os 1 H.length 0 [] 0 l.length (l.length+2)) (H++[.obj 0 (.arr (l.length+2) 1 ((l++[71,72]).map by8))])) :
  Ato Tryz.prog 5 [slB l] H K:=by
 refine AIX (by simp) ?_
 have c2:((l.length:Int)+2)=((l.length+2:Nat):Int):=by omega
 have b1:((1:Nat):Int)*((l.length+2:Nat):Int)≤281474976710656:=by omega
 have b2:((l.length+2:Nat):Int)≤9223372036854775807:=by omega
 have z:∀ n:Nat,List.replicate n (TV.val (.int .u8 ((0:Nat):Int)))=(List.replicate n (0:UInt8)).map by8:=fun n=>by rw [List.map_replicate]; rfl
 have e1:List.map by8 l++List.drop (min l.length (l.length+2)) (List.replicate (l.length+2) (TV.val (.int .u8 ((0:Nat):Int))))=(l++[0,0]).map by8:=by
  rw [z,←List.map_drop,←List.map_append,Nat.min_eq_left (by omega),List.drop_replicate,show l.length+2 - l.length=2 from by omega]; rfl
 have e2:((l++[0,0]).map by8).set l.length (.val (.int .u8 ((71:Nat):Int)))=(l++[71,0]).map by8:=by
  rw [List.map_append,List.set_append_right _ _ (by simp),List.map_append]; simp
 have e3:((l++[71,0]).map by8).set (l.length+1) (.val (.int .u8 ((72:Nat):Int)))=(l++[71,72]).map by8:=by
  rw [List.map_append,List.set_append_right _ _ (by simp),List.map_append]; simp
 have g1:((l++[0,0]).map by8)[l.length]?=some (by8 0):=by simp
 have g2:((l++[71,0]).map by8)[l.length+1]?=some (by8 0):=by simp
 simp -dsimp (disch:=first | assumption | omega | (simp only [Atb];try omega)) only [↓Ate,Ata,Atf,Atd,eq_self,Nat.reduceEqDiff,↓reduceIte,reduceCtorEq,Nat.reduceLeDiff,↓AKq,e1,e2,e3,g1,g2]
 exact hk
abbrev x85 (l:List UInt8):List UInt8:=l.map (· ^^^ 85)
theorem ARH {c:List UInt8} {k:Nat} (hk:k<c.length):(x85 (c.take k)++c.drop k).set k (c[k] ^^^ 85)=x85 (c.take (k+1))++c.drop (k+1):=by
 have h1:(x85 (c.take k)).length=k:=by simp; omega
 rw [List.set_append_right _ _ (by omega),h1,Nat.sub_self,List.drop_eq_getElem_cons hk,List.set_cons_zero,List.take_succ_eq_append_getElem hk,x85,x85,List.map_append,List.append_assoc]
 rfl
theorem AIT (l:List UInt8) (hl:l.length≤1000000) {H:List Ob} {id ver:Nat} {K:TV→List Ob→Prop} (ho:H[id]?=some (.obj ver (.arr (l.length+2) 1 ((l++[71,72]).map by8))))
  (hk:K (tb true) (H.set id (.obj ver (.arr (l.length+2) 1 ((x85 (l++[71,72])).map by8))))) :
  Ato Tryz.prog 7 [.os 1 id ver [] 0 l.length (l.length+2),slB l] H K:=by
 refine AJq (by simp) ?_
 have hid:id<H.length:=(List.getElem?_eq_some_iff.1 ho).1
 have c2:((l.length:Int)+2)=((l.length+2:Nat):Int):=by omega
 have g1:(l++[71,72])[l.length]?=some 71:=by simp
 have g2:(l++[71,72])[l.length+1]?=some 72:=by simp
 have hL:(l++[71,72]).length=l.length+2:=by simp
 have ht:(l++[71,72]).take l.length=l:=by simp
 generalize hc:l++[71,72]=c at *
 simp -dsimp (disch:=first | assumption | omega | (simp only [Atb];try omega)) only [↓Ate,Ata,Atf,Atd,eq_self,Nat.reduceEqDiff,↓reduceIte,Nat.reduceAdd,reduceCtorEq,Nat.reduceLeDiff,↓Ayh]
 refine (same l l (by omega) (by omega)).lends (args':=[slB l,slB l]) (by simp -dsimp (disch:=first | assumption | omega) only [Atf,Atd,eq_self,↓reduceIte,ho,hL,ht]) ?_
 rintro x rfl
 refine ⟨rfl,?_⟩
 rw [show tb (decide (l=l))=tb true from by simp]
 simp -dsimp (disch:=first | assumption | omega | (simp only [Atb];try omega)) only [↓Ate,Ata,Atf,Atd,eq_self,Nat.reduceEqDiff,UInt8.reduceToNat,↓reduceIte,↓Ayh,ho,g1,g2]
 ·refine Av3 (fun n e H'=>∃ (k:Nat),n=c.length - k∧k≤c.length∧e=[(6,.os 1 id ver [] 0 (l.length+2) (l.length+2)),(7,tb true),(8,i64 (k:Int))]∧H'=H.set id (.obj ver (.arr (l.length+2) 1 ((x85 (c.take k)++c.drop k).map by8)))) c.length ?_ ?_
  ·refine ⟨0,by simp,by omega,rfl,?_⟩
   have e0:x85 (c.take 0)++c.drop 0=c:=by simp
   obtain ⟨h1,h2⟩:=List.getElem?_eq_some_iff.1 ho
   rw [e0,←h2,List.set_getElem_self]
  ·rintro n e H' ⟨k,rfl,hkl,rfl,rfl⟩
   have gs:∀ o,(H.set id o)[id]?=some o:=fun o=>by simp [hid]
   by_cases hkc:k<c.length
   ·have hk2:k<l.length+2:=by omega
    have hlen:(x85 (c.take k)).length=k:=by simp; omega
    have g3:(x85 (c.take k)++c.drop k)[k]?=some c[k]:=by
     rw [List.getElem?_append_right (by omega),hlen,Nat.sub_self,List.getElem?_drop]; simp [hkc]
    have g4:=ARH hkc
    have h85:∀ (t:TypeId) (x:UInt8),Axl t .xor (.int .u8 (x.toNat:Int)) (.int .u8 ((85:Nat):Int))=some (.int .u8 ((x ^^^ 85).toNat:Int)):=fun t x=>ATk (t:=t) (x:=x) (y:=85)
    generalize x85 (c.take k)++c.drop k=r at *
    generalize c[k]=y at *
    simp -dsimp (disch:=first | assumption | omega | (simp only [Atb];try omega)) only [↓Ate,Ata,Atf,Atd,eq_self,Nat.reduceEqDiff,↓reduceIte,↓Ayh,gs,g3,g4,h85,ATa]
    exact Auj (c.length - (k+1)) (by omega) (by simp) ⟨k+1,rfl,by omega,rfl,rfl⟩
   ·have hke:k=c.length:=by omega
    have hk2:¬ k<l.length+2:=by omega
    have e0:x85 (c.take k)++c.drop k=x85 c:=by rw [hke,List.take_length,List.drop_length,List.append_nil]
    have e1:List.drop k c=[]:=by rw [hke,List.drop_length]
    simp -dsimp (disch:=first | assumption | omega | (simp only [Atb];try omega)) only [↓Ate,Ata,Atf,Atd,eq_self,Nat.reduceEqDiff,↓reduceIte,↓Ayh]
    rw [e1,List.append_nil]
    exact hk
end
section
open Go.RowKit
variable [AtW] [At4] [Ati] [Atv] [Atx] [Atw] [AvU]
omit [At4] [Ati] [Atv] [Atx] [Atw] [AvU] in
theorem ATw {x:List (List UInt8)} {M:Nat} (hx:∀ l∈x,l.length≤M):∀ (hs:List HZ) (a:Nat) (y:List (List UInt8)),(∀ h∈hs,∀ e∈h.es,e.2.length≤M)→apH x a hs=some y→y.length≤x.length*(hs.length+1)+(hs.flatMap (·.es)).length∧∀ l∈y,l.length≤M
 | [],a,y,_,h=>by
  rw [apH] at h
  cases h
  exact ⟨by simp,fun l hl=>hx l (List.mem_of_mem_drop hl)⟩
 | g::hs,a,y,hM,h=>by
  rw [apH] at h
  split at h
  ·cases h
  split at h
  ·cases h
  rename_i o a' hE
  obtain ⟨z,hz,rfl⟩:=Option.map_eq_some_iff.1 h
  obtain ⟨_,e2,_,e4⟩:=ALK hE
  obtain ⟨i1,i2⟩:=ATw hx hs a' z (fun h hh=>hM h (by simp [hh])) hz
  refine ⟨?_,fun l hl => ?_⟩
  ·have e5:((x.take g.at_).drop a).length≤x.length:=by simp; omega
   rw [List.length_append,List.length_append,List.flatMap_cons,List.length_append,List.length_cons,Nat.mul_add]
   omega
  ·rcases List.mem_append.1 hl with hl | hl
   ·exact hx l (List.mem_of_mem_take (List.mem_of_mem_drop hl))
   ·rcases List.mem_append.1 hl with hl | hl
    ·obtain ⟨e,he,rfl⟩:=e4 l hl
     exact hM g (by simp) e he
    ·exact i2 l hl
omit [At4] [Ati] [Atv] [Atx] [Atw] [AvU] in
theorem AYc {a p b:List UInt8} (ha:a.length≤4000) (hp:p.length≤4000) (h:AuU a p = .yes b):b.length≤1000000000000:=by
 unfold AuU at h
 split at h
 ·cases h
 ·rename_i hs hh
  split at h
  ·cases h
  ·rename_i y hy
   split at h
   ·cases h
    obtain ⟨_,o2,o3,o4⟩:=AGN _ p 0 0 hs (Nat.le_refl _) hh
    have hxl:=AyF a
    obtain ⟨k1,k2⟩:=ATw (M:=4000) (fun l hl=>by have:=AEK hl; rw [AvA] at this; omega) hs 0 y (fun g hg e he=>Nat.le_trans ((o4 g hg).2 e he).1 hp) hy
    have k3:=AIy k2
    have k4:(Atp a).length*(hs.length+1)≤4000*4001:=Nat.mul_le_mul (by omega) (by omega)
    have k5:y.length*4000≤16008000*4000:=Nat.mul_le_mul (by omega) (Nat.le_refl _)
    omega
   ·cases h
theorem AK6 (a p:List UInt8) (ha:a.length≤140737488351232) (hp:p.length≤140737488351232):Auy Tryz.prog 3 [slB a,slB p] (fun x=>x=tb true):=by
 refine Ato.toPureV (ACv (by simp) ?_)
 by_cases h1:4000<a.length
 ·simp -dsimp (disch:=first | assumption | omega | (simp only [Atb];try omega)) only [↓Ate,Ata,Atf,Atd,eq_self,Nat.reduceEqDiff,↓reduceIte,Nat.reduceAdd,reduceCtorEq,h1,↓Atk]
 by_cases h2:4000<p.length
 ·simp -dsimp (disch:=first | assumption | omega | (simp only [Atb];try omega)) only [↓Ate,Ata,Atf,Atd,eq_self,Nat.reduceEqDiff,↓reduceIte,Nat.reduceAdd,reduceCtorEq,h1,h2,↓Atk]
 have htk:∀ b:List UInt8,((b++[71,72]).map by8).take b.length=b.map by8:=fun b=>by rw [List.map_append,List.take_append_of_le_length (by simp),List.take_of_length_le (by simp)]
 have happ:=AWo a p (by omega) (by omega)
 have hrap:=AUg a p (by omega) (by omega)
 simp -dsimp (disch:=first | assumption | omega | (simp only [Atb];try omega)) only [↓Ate,Ata,Atf,Atd,eq_self,Nat.reduceEqDiff,↓reduceIte,Nat.reduceAdd,reduceCtorEq,h1,h2,↓Atk]
 refine AWf a (by omega) ?_
 simp -dsimp (disch:=first | assumption | omega | (simp only [Atb];try omega)) only [↓Ate,Ata,Atf,Atd,eq_self,Nat.reduceEqDiff,↓reduceIte,reduceCtorEq,↓Atk]
 refine AWf p (by omega) ?_
 simp -dsimp (disch:=first | assumption | omega | (simp only [Atb];try omega)) only [↓Ate,Ata,Atf,Atd,eq_self,Nat.reduceEqDiff,↓reduceIte,reduceCtorEq,↓Atk]
 refine happ.lends (args':=[slB a,slB p]) (by simp -dsimp (disch:=first | assumption | omega | (simp only [Atb];try omega)) only [Atf,Atd,eq_self,↓reduceIte,Nat.reduceAdd,htk]) fun x hx => ?_
 cases hA:AuU a p with
 | no e =>
  rw [hx.2 e hA]
  have hsame:Auy Tryz.prog 9 [.val (.slice none 0 0),.val (.slice none 0 0)] (fun x=>x=tb true):=((same [] [] (by simp) (by simp)).mono fun x hx=>by simpa using hx).argL (.cons AL1 (.cons AL1 .nil))
  simp -dsimp (disch:=first | assumption | omega | (simp only [Atb];try omega)) only [↓Ate,Ata,Atf,Atd,eq_self,Nat.reduceEqDiff,↓reduceIte,reduceCtorEq,↓Atk]
  refine AIT a (by omega) rfl ?_
  simp -dsimp (disch:=first | assumption | omega | (simp only [Atb];try omega)) only [↓Ate,Ata,Atf,Atd,eq_self,Nat.reduceEqDiff,↓reduceIte,reduceCtorEq,↓Atk]
  refine AIT p (by omega) rfl ?_
  simp -dsimp (disch:=first | assumption | omega | (simp only [Atb];try omega)) only [↓Ate,Ata,Atf,Atd,eq_self,Nat.reduceEqDiff,↓reduceIte,reduceCtorEq,↓Atk]
  refine hrap.calls rfl fun y hy => ?_
  rw [hy.2 e hA]
  simp -dsimp (disch:=first | assumption | omega | (simp only [Atb];try omega)) only [↓Ate,Ata,Atf,Atd,eq_self,Nat.reduceEqDiff,↓reduceIte,reduceCtorEq,↓Atk]
  refine hsame.calls rfl fun r hr => ?_
  subst hr
  simp -dsimp (disch:=first | assumption | omega | (simp only [Atb];try omega)) only [↓Ate,Ata,Atf,Atd,eq_self,Nat.reduceEqDiff,↓reduceIte,↓Atk]
  refine A2j.calls rfl fun r hr => ?_
  subst hr
  simp -dsimp (disch:=first | assumption | omega | (simp only [Atb];try omega)) only [↓Ate,Ata,Atf,Atd,eq_self,Nat.reduceEqDiff,↓reduceIte,↓Atk]
 | yes b =>
  rw [hx.1 b hA]
  have hbl:=AYc (by omega) (by omega) hA
  simp -dsimp (disch:=first | assumption | omega | (simp only [Atb];try omega)) only [↓Ate,Ata,Atf,Atd,eq_self,Nat.reduceEqDiff,↓reduceIte,reduceCtorEq,↓Atk]
  refine AIT a (by omega) rfl ?_
  simp -dsimp (disch:=first | assumption | omega | (simp only [Atb];try omega)) only [↓Ate,Ata,Atf,Atd,eq_self,Nat.reduceEqDiff,↓reduceIte,reduceCtorEq,↓Atk]
  refine AIT p (by omega) rfl ?_
  simp -dsimp (disch:=first | assumption | omega | (simp only [Atb];try omega)) only [↓Ate,Ata,Atf,Atd,eq_self,Nat.reduceEqDiff,↓reduceIte,reduceCtorEq,↓Atk]
  refine hrap.calls rfl fun y hy => ?_
  rw [hy.1 b hA]
  simp -dsimp (disch:=first | assumption | omega | (simp only [Atb];try omega)) only [↓Ate,Ata,Atf,Atd,eq_self,Nat.reduceEqDiff,↓reduceIte,reduceCtorEq,↓Atk]
  refine (same b b (by omega) (by omega)).calls rfl fun r hr => ?_
  subst hr
  simp -dsimp (disch:=first | assumption | omega | (simp only [Atb];try omega)) only [↓Ate,Ata,Atf,Atd,eq_self,Nat.reduceEqDiff,↓reduceIte,↓Atk]
  refine AZB.calls rfl fun r hr => ?_
  subst hr
  simp -dsimp (disch:=first | assumption | omega | (simp only [Atb];try omega)) only [↓Ate,Ata,Atf,Atd,eq_self,Nat.reduceEqDiff,↓reduceIte,↓Atk]
end
end Go.Proofs.YtkoilgokgaigbaaGreatDoor
namespace Go.Proofs.YtkoilgokgaigbaaGreatDoor.diffApplies
open Go.ChangeShapes Go.WideShapes Go.ChangeAt Go.RowKit
theorem own:ownKnob Tryz.prog.godebug=none:=by kernel_rfl
mutual
def AUh:DataW Unit→List Value
 | .lit (.int k n)=>[.int k n]
 | .lit (.string l)=>[.string ⟨l.toArray⟩]
 | .agg l=>AYh l
 | _=>[]
def AYh:List (DataW Unit)→List Value
 | []=>[]
 | d::l=>AUh d++AYh l
end
abbrev giM (t0:TypeId) (a0:Addr) (t1:TypeId) (a1:Addr) (m:Int):AtW:=⟨[(0,AuC),(8,AtO),(9,AtQ),(3,Ats),(1,At9),(5,GV.one (.iface t0 (.pointer (some a0)))),(4,GV.one (.iface t1 (.pointer (some a1)))),(2,GV.one (.int .i64 m))],by kernel_rfl⟩
theorem AD4 (t0:TypeId) (a0:Addr) (t1:TypeId) (a1:Addr) (m:Int):@At4 (giM t0 a0 t1 a1 m):=@At4.mk (giM t0 a0 t1 a1 m) (by kernel_rfl)
theorem AyM (t0:TypeId) (a0:Addr) (t1:TypeId) (a1:Addr) (m:Int):@AuM (giM t0 a0 t1 a1 m):=@AuM.mk (giM t0 a0 t1 a1 m) (by kernel_rfl)
theorem AyH (t0:TypeId) (a0:Addr) (t1:TypeId) (a1:Addr) (m:Int):@AuN (giM t0 a0 t1 a1 m):=@AuN.mk (giM t0 a0 t1 a1 m) (by kernel_rfl)
theorem Axo (t0:TypeId) (a0:Addr) (t1:TypeId) (a1:Addr) (m:Int):@Ati (giM t0 a0 t1 a1 m):=@Ati.mk (giM t0 a0 t1 a1 m) (by kernel_rfl)
theorem ACJ (t0:TypeId) (a0:Addr) (t1:TypeId) (a1:Addr) (m:Int):@Atw (giM t0 a0 t1 a1 m):=@Atw.mk (giM t0 a0 t1 a1 m) (by kernel_rfl)
theorem AE2 (t0:TypeId) (a0:Addr) (t1:TypeId) (a1:Addr) (m:Int):@Atx (giM t0 a0 t1 a1 m):=@Atx.mk (giM t0 a0 t1 a1 m) ⟨t0,a0,by kernel_rfl⟩
theorem ADQ (t0:TypeId) (a0:Addr) (t1:TypeId) (a1:Addr) (m:Int):@Atv (giM t0 a0 t1 a1 m):=@Atv.mk (giM t0 a0 t1 a1 m) ⟨t1,a1,by kernel_rfl⟩
theorem et:Tryz.prog.globalNamed "errors.errorType" = some 0:=by kernel_rfl
theorem rt:(Tryz.prog.cutTypes.find? (·.1 == "internal/reflectlite.rtype")).map (·.2)=some 112:=by kernel_rfl
theorem AWs:((List.range Tryz.prog.types.size).filter fun t=>Tryz.prog.rowNamed t [101,114,114,111,114])=[25]:=by kernel_rfl
theorem AHO {W:World} (h:handlesMet Tryz.prog [("errors.errorType", Rows.laid_errors_errorType)] W):∃ t fr,W.heap[0]?=some (.cells AuC.cells.toArray t fr):=by
 obtain ⟨name,u,ty,e1,e2,e3,e4,e5⟩:=h _ (List.mem_singleton.2 rfl)
 have en:name=[101,114,114,111,114]:=(Option.some.inj e1).symm
 subst en
 obtain rfl:=Option.some.inj (rt.symm.trans e2)
 have hm:ty∈(List.range Tryz.prog.types.size).filter fun t=>Tryz.prog.rowNamed t [101,114,114,111,114]:=List.mem_filter.2 ⟨List.mem_range.2 e3,e4⟩
 rw [AWs] at hm
 obtain rfl:=List.mem_singleton.1 hm
 have hh:typeHandle Tryz.prog 25 = .pointer (some ⟨10,25,none⟩):=by kernel_rfl
 rw [hh] at e5
 exact AJa et e5
def Ax4:List (DataW Unit):=[.lit (.int .u8 0),.lit (.int .u8 1),.lit (.int .u8 28),.lit (.int .u8 2),.lit (.int .u8 29),.lit (.int .u8 14),.lit (.int .u8 24),.lit (.int .u8 3),.lit (.int .u8 30),.lit (.int .u8 22),.lit (.int .u8 20),.lit (.int .u8 15),.lit (.int .u8 25),.lit (.int .u8 17),.lit (.int .u8 4),.lit (.int .u8 8),.lit (.int .u8 31),.lit (.int .u8 27),.lit (.int .u8 13),.lit (.int .u8 23),.lit (.int .u8 21),.lit (.int .u8 19),.lit (.int .u8 16),.lit (.int .u8 7),.lit (.int .u8 26),.lit (.int .u8 12),.lit (.int .u8 18),.lit (.int .u8 6),.lit (.int .u8 11),.lit (.int .u8 5),.lit (.int .u8 10),.lit (.int .u8 9)]
theorem Ax5 {W:World} (h:laidMet Tryz.prog [("math/bits.deBruijn32tab", Rows.laid_math_bits_deBruijn32tab),("math/bits.deBruijn64tab", Rows.laid_math_bits_deBruijn64tab),("internal/strconv.uint64pow10", Rows.laid_internal_strconv_uint64pow10),("unicode/utf8.acceptRanges", Rows.laid_unicode_utf8_acceptRanges),("strconv.ErrRange", Rows.laid_strconv_ErrRange),("strconv.ErrSyntax", Rows.laid_strconv_ErrSyntax),("gitlike/diff.signs", Rows.laid_gitlike_diff_signs),("unicode/utf8.first", Rows.laid_unicode_utf8_first)] W):∃ t fr,W.heap[8]?=some (.cells AtO.cells.toArray t fr) :=
 AGM (t:=(Tryz.prog.globals[8]?).elim 0 (·.type)) (e:=match Tryz.prog.underlying ((Tryz.prog.globals[8]?).elim 0 (·.type)) with | some (.array _ e)=>e | _=>0) (n:=AtO.cells.length) h (List.mem_of_getElem? (i:=0) (show [("math/bits.deBruijn32tab", Rows.laid_math_bits_deBruijn32tab),("math/bits.deBruijn64tab", Rows.laid_math_bits_deBruijn64tab),("internal/strconv.uint64pow10", Rows.laid_internal_strconv_uint64pow10),("unicode/utf8.acceptRanges", Rows.laid_unicode_utf8_acceptRanges),("strconv.ErrRange", Rows.laid_strconv_ErrRange),("strconv.ErrSyntax", Rows.laid_strconv_ErrSyntax),("gitlike/diff.signs", Rows.laid_gitlike_diff_signs),("unicode/utf8.first", Rows.laid_unicode_utf8_first)][0]?=some ("math/bits.deBruijn32tab", DataW.agg Ax4) by kernel_rfl)) (by kernel_rfl) (by kernel_rfl) (by kernel_rfl) (by kernel_rfl) (by kernel_rfl) (by kernel_rfl) (by kernel_rfl)
def Ax3:List (DataW Unit):=[.lit (.int .u8 0),.lit (.int .u8 1),.lit (.int .u8 56),.lit (.int .u8 2),.lit (.int .u8 57),.lit (.int .u8 49),.lit (.int .u8 28),.lit (.int .u8 3),.lit (.int .u8 61),.lit (.int .u8 58),.lit (.int .u8 42),.lit (.int .u8 50),.lit (.int .u8 38),.lit (.int .u8 29),.lit (.int .u8 17),.lit (.int .u8 4),.lit (.int .u8 62),.lit (.int .u8 47),.lit (.int .u8 59),.lit (.int .u8 36),.lit (.int .u8 45),.lit (.int .u8 43),.lit (.int .u8 51),.lit (.int .u8 22),.lit (.int .u8 53),.lit (.int .u8 39),.lit (.int .u8 33),.lit (.int .u8 30),.lit (.int .u8 24),.lit (.int .u8 18),.lit (.int .u8 12),.lit (.int .u8 5),.lit (.int .u8 63),.lit (.int .u8 55),.lit (.int .u8 48),.lit (.int .u8 27),.lit (.int .u8 60),.lit (.int .u8 41),.lit (.int .u8 37),.lit (.int .u8 16),.lit (.int .u8 46),.lit (.int .u8 35),.lit (.int .u8 44),.lit (.int .u8 21),.lit (.int .u8 52),.lit (.int .u8 32),.lit (.int .u8 23),.lit (.int .u8 11),.lit (.int .u8 54),.lit (.int .u8 26),.lit (.int .u8 40),.lit (.int .u8 15),.lit (.int .u8 34),.lit (.int .u8 20),.lit (.int .u8 31),.lit (.int .u8 10),.lit (.int .u8 25),.lit (.int .u8 14),.lit (.int .u8 19),.lit (.int .u8 9),.lit (.int .u8 13),.lit (.int .u8 8),.lit (.int .u8 7),.lit (.int .u8 6)]
theorem Ax7 {W:World} (h:laidMet Tryz.prog [("math/bits.deBruijn32tab", Rows.laid_math_bits_deBruijn32tab),("math/bits.deBruijn64tab", Rows.laid_math_bits_deBruijn64tab),("internal/strconv.uint64pow10", Rows.laid_internal_strconv_uint64pow10),("unicode/utf8.acceptRanges", Rows.laid_unicode_utf8_acceptRanges),("strconv.ErrRange", Rows.laid_strconv_ErrRange),("strconv.ErrSyntax", Rows.laid_strconv_ErrSyntax),("gitlike/diff.signs", Rows.laid_gitlike_diff_signs),("unicode/utf8.first", Rows.laid_unicode_utf8_first)] W):∃ t fr,W.heap[9]?=some (.cells AtQ.cells.toArray t fr) :=
 AGM (t:=(Tryz.prog.globals[9]?).elim 0 (·.type)) (e:=match Tryz.prog.underlying ((Tryz.prog.globals[9]?).elim 0 (·.type)) with | some (.array _ e)=>e | _=>0) (n:=AtQ.cells.length) h (List.mem_of_getElem? (i:=1) (show [("math/bits.deBruijn32tab", Rows.laid_math_bits_deBruijn32tab),("math/bits.deBruijn64tab", Rows.laid_math_bits_deBruijn64tab),("internal/strconv.uint64pow10", Rows.laid_internal_strconv_uint64pow10),("unicode/utf8.acceptRanges", Rows.laid_unicode_utf8_acceptRanges),("strconv.ErrRange", Rows.laid_strconv_ErrRange),("strconv.ErrSyntax", Rows.laid_strconv_ErrSyntax),("gitlike/diff.signs", Rows.laid_gitlike_diff_signs),("unicode/utf8.first", Rows.laid_unicode_utf8_first)][1]?=some ("math/bits.deBruijn64tab", DataW.agg Ax3) by kernel_rfl)) (by kernel_rfl) (by kernel_rfl) (by kernel_rfl) (by kernel_rfl) (by kernel_rfl) (by kernel_rfl) (by kernel_rfl)
def AwB:List (DataW Unit):=[.lit (.int .u64 1),.lit (.int .u64 10),.lit (.int .u64 100),.lit (.int .u64 1000),.lit (.int .u64 10000),.lit (.int .u64 100000),.lit (.int .u64 1000000),.lit (.int .u64 10000000),.lit (.int .u64 100000000),.lit (.int .u64 1000000000),.lit (.int .u64 10000000000),.lit (.int .u64 100000000000),.lit (.int .u64 1000000000000),.lit (.int .u64 10000000000000),.lit (.int .u64 100000000000000),.lit (.int .u64 1000000000000000),.lit (.int .u64 10000000000000000),.lit (.int .u64 100000000000000000),.lit (.int .u64 1000000000000000000),.lit (.int .u64 10000000000000000000)]
theorem Awz {W:World} (h:laidMet Tryz.prog [("math/bits.deBruijn32tab", Rows.laid_math_bits_deBruijn32tab),("math/bits.deBruijn64tab", Rows.laid_math_bits_deBruijn64tab),("internal/strconv.uint64pow10", Rows.laid_internal_strconv_uint64pow10),("unicode/utf8.acceptRanges", Rows.laid_unicode_utf8_acceptRanges),("strconv.ErrRange", Rows.laid_strconv_ErrRange),("strconv.ErrSyntax", Rows.laid_strconv_ErrSyntax),("gitlike/diff.signs", Rows.laid_gitlike_diff_signs),("unicode/utf8.first", Rows.laid_unicode_utf8_first)] W):∃ t fr,W.heap[3]?=some (.cells Ats.cells.toArray t fr) :=
 AGM (t:=(Tryz.prog.globals[3]?).elim 0 (·.type)) (e:=match Tryz.prog.underlying ((Tryz.prog.globals[3]?).elim 0 (·.type)) with | some (.array _ e)=>e | _=>0) (n:=Ats.cells.length) h (List.mem_of_getElem? (i:=2) (show [("math/bits.deBruijn32tab", Rows.laid_math_bits_deBruijn32tab),("math/bits.deBruijn64tab", Rows.laid_math_bits_deBruijn64tab),("internal/strconv.uint64pow10", Rows.laid_internal_strconv_uint64pow10),("unicode/utf8.acceptRanges", Rows.laid_unicode_utf8_acceptRanges),("strconv.ErrRange", Rows.laid_strconv_ErrRange),("strconv.ErrSyntax", Rows.laid_strconv_ErrSyntax),("gitlike/diff.signs", Rows.laid_gitlike_diff_signs),("unicode/utf8.first", Rows.laid_unicode_utf8_first)][2]?=some ("internal/strconv.uint64pow10", DataW.agg AwB) by kernel_rfl)) (by kernel_rfl) (by kernel_rfl) (by kernel_rfl) (by kernel_rfl) (by kernel_rfl) (by kernel_rfl) (by kernel_rfl)
def ABz:List (DataW Unit):=[.lit (.string [32]),.lit (.string [45]),.lit (.string [43])]
theorem ABO {W:World} (h:laidMet Tryz.prog [("math/bits.deBruijn32tab", Rows.laid_math_bits_deBruijn32tab),("math/bits.deBruijn64tab", Rows.laid_math_bits_deBruijn64tab),("internal/strconv.uint64pow10", Rows.laid_internal_strconv_uint64pow10),("unicode/utf8.acceptRanges", Rows.laid_unicode_utf8_acceptRanges),("strconv.ErrRange", Rows.laid_strconv_ErrRange),("strconv.ErrSyntax", Rows.laid_strconv_ErrSyntax),("gitlike/diff.signs", Rows.laid_gitlike_diff_signs),("unicode/utf8.first", Rows.laid_unicode_utf8_first)] W):∃ t fr,W.heap[1]?=some (.cells At9.cells.toArray t fr) :=
 AGM (t:=(Tryz.prog.globals[1]?).elim 0 (·.type)) (e:=match Tryz.prog.underlying ((Tryz.prog.globals[1]?).elim 0 (·.type)) with | some (.array _ e)=>e | _=>0) (n:=At9.cells.length) h (List.mem_of_getElem? (i:=6) (show [("math/bits.deBruijn32tab", Rows.laid_math_bits_deBruijn32tab),("math/bits.deBruijn64tab", Rows.laid_math_bits_deBruijn64tab),("internal/strconv.uint64pow10", Rows.laid_internal_strconv_uint64pow10),("unicode/utf8.acceptRanges", Rows.laid_unicode_utf8_acceptRanges),("strconv.ErrRange", Rows.laid_strconv_ErrRange),("strconv.ErrSyntax", Rows.laid_strconv_ErrSyntax),("gitlike/diff.signs", Rows.laid_gitlike_diff_signs),("unicode/utf8.first", Rows.laid_unicode_utf8_first)][6]?=some ("gitlike/diff.signs", DataW.agg ABz) by kernel_rfl)) (by kernel_rfl) (by kernel_rfl) (by kernel_rfl) (by kernel_rfl) (by kernel_rfl) (by kernel_rfl) (by kernel_rfl)
theorem A1J : "*" ++ "errors.errorString" = "*errors.errorString" := by decide
theorem ATf (u:TypeId) (h:Tryz.prog.typeName? 3 u=some "*errors.errorString"):u=185 :=
 typeName_ptr_named (nm := "errors.errorString") (by rw [A1J]; kernel_rfl) (by kernel_rfl) (by decide) u (by rw [A1J]; exact h)
theorem ACK {W:World} (h:laidMet Tryz.prog [("math/bits.deBruijn32tab", Rows.laid_math_bits_deBruijn32tab),("math/bits.deBruijn64tab", Rows.laid_math_bits_deBruijn64tab),("internal/strconv.uint64pow10", Rows.laid_internal_strconv_uint64pow10),("unicode/utf8.acceptRanges", Rows.laid_unicode_utf8_acceptRanges),("strconv.ErrRange", Rows.laid_strconv_ErrRange),("strconv.ErrSyntax", Rows.laid_strconv_ErrSyntax),("gitlike/diff.signs", Rows.laid_gitlike_diff_signs),("unicode/utf8.first", Rows.laid_unicode_utf8_first)] W):∃ (a:Addr) (t:TypeId) (fr:Nat×Nat),W.heap[5]?=some (.cells #[.iface 185 (.pointer (some a))] t fr):=by
 have h2:laidMet Tryz.prog (("strconv.ErrRange", DataW.iface "*errors.errorString" (.ptr (.agg [.lit (.string [118,97,108,117,101,32,111,117,116,32,111,102,32,114,97,110,103,101])])))::[("strconv.ErrSyntax", Rows.laid_strconv_ErrSyntax),("gitlike/diff.signs", Rows.laid_gitlike_diff_signs),("unicode/utf8.first", Rows.laid_unicode_utf8_first)]) W:=h.tail.tail.tail.tail
 have hg:Tryz.prog.globalNamed "strconv.ErrRange" = some 5:=by kernel_rfl
 obtain ⟨a,s,hv,_⟩:=laid_sentinel h2 hg (show (Tryz.prog.globals[5]?).map (·.type)=some 25 by kernel_rfl) Tryz.underlying25 ATf Tryz.underlying185 Tryz.underlying187 rfl rfl Tryz.underlying9 (by kernel_rfl) (by kernel_rfl)
 exact ⟨a,AJa hg hv⟩
theorem ABV {W:World} (h:laidMet Tryz.prog [("math/bits.deBruijn32tab", Rows.laid_math_bits_deBruijn32tab),("math/bits.deBruijn64tab", Rows.laid_math_bits_deBruijn64tab),("internal/strconv.uint64pow10", Rows.laid_internal_strconv_uint64pow10),("unicode/utf8.acceptRanges", Rows.laid_unicode_utf8_acceptRanges),("strconv.ErrRange", Rows.laid_strconv_ErrRange),("strconv.ErrSyntax", Rows.laid_strconv_ErrSyntax),("gitlike/diff.signs", Rows.laid_gitlike_diff_signs),("unicode/utf8.first", Rows.laid_unicode_utf8_first)] W):∃ (a:Addr) (t:TypeId) (fr:Nat×Nat),W.heap[4]?=some (.cells #[.iface 185 (.pointer (some a))] t fr):=by
 have h2:laidMet Tryz.prog (("strconv.ErrSyntax", DataW.iface "*errors.errorString" (.ptr (.agg [.lit (.string [105,110,118,97,108,105,100,32,115,121,110,116,97,120])])))::[("gitlike/diff.signs", Rows.laid_gitlike_diff_signs),("unicode/utf8.first", Rows.laid_unicode_utf8_first)]) W:=h.tail.tail.tail.tail.tail
 have hg:Tryz.prog.globalNamed "strconv.ErrSyntax" = some 4:=by kernel_rfl
 obtain ⟨a,s,hv,_⟩:=laid_sentinel h2 hg (show (Tryz.prog.globals[4]?).map (·.type)=some 25 by kernel_rfl) Tryz.underlying25 ATf Tryz.underlying185 Tryz.underlying187 rfl rfl Tryz.underlying9 (by kernel_rfl) (by kernel_rfl)
 exact ⟨a,AJa hg hv⟩
theorem AKx {W:World} (h:laidMetH Tryz.prog Rows.diffAppliesRow.laid W) (hsh:W.ShapedOpen Tryz.prog):∃ t0 a0 t1 a1 m,@Av0 (giM t0 a0 t1 a1 m) (fun b=>b<W.heap.size) W:=by
 have h':laidMet Tryz.prog [("math/bits.deBruijn32tab", Rows.laid_math_bits_deBruijn32tab),("math/bits.deBruijn64tab", Rows.laid_math_bits_deBruijn64tab),("internal/strconv.uint64pow10", Rows.laid_internal_strconv_uint64pow10),("unicode/utf8.acceptRanges", Rows.laid_unicode_utf8_acceptRanges),("strconv.ErrRange", Rows.laid_strconv_ErrRange),("strconv.ErrSyntax", Rows.laid_strconv_ErrSyntax),("gitlike/diff.signs", Rows.laid_gitlike_diff_signs),("unicode/utf8.first", Rows.laid_unicode_utf8_first)] W∧handlesMet Tryz.prog [("errors.errorType", Rows.laid_errors_errorType)] W:=h
 obtain ⟨a0,e0⟩:=ACK h'.1
 obtain ⟨a1,e1⟩:=ABV h'.1
 obtain ⟨m,tt,fr,hh⟩:=AIS (k := .i64) (zero := #[.int .i64 0]) (g:=2) (t:=3) hsh (of_decide_eq_true (by kernel_rfl)) (by kernel_rfl) rfl (by kernel_rfl) (by kernel_rfl) Tryz.underlying3
 refine ⟨185,a0,185,a1,m,?_⟩
 letI:=giM 185 a0 185 a1 m
 intro g x hx
 have hm:=AMM hx
 have hm':(g,x)∈([(0,AuC),(8,AtO),(9,AtQ),(3,Ats),(1,At9),(5,GV.one (.iface 185 (.pointer (some a0)))),(4,GV.one (.iface 185 (.pointer (some a1)))),(2,GV.one (.int .i64 m))]:List (Nat×GV)):=hm
 simp only [List.mem_cons,List.mem_nil_iff,or_false,Prod.mk.injEq] at hm'
 have key:∃ t fr,W.heap[g]?=some (.cells x.cells.toArray t fr):=by
  rcases hm' with ⟨rfl,rfl⟩ | ⟨rfl,rfl⟩ | ⟨rfl,rfl⟩ | ⟨rfl,rfl⟩ | ⟨rfl,rfl⟩ | ⟨rfl,rfl⟩ | ⟨rfl,rfl⟩ | ⟨rfl,rfl⟩
  ·exact AHO h'.2
  ·exact Ax5 h'.1
  ·exact Ax7 h'.1
  ·exact Awz h'.1
  ·exact ABO h'.1
  ·exact e0
  ·exact e1
  ·exact ⟨tt,fr,hh⟩
 obtain ⟨t,fr,hk⟩:=key
 exact ⟨(Array.getElem?_eq_some_iff.1 hk).1,t,fr,hk⟩
noncomputable def AKl (os:Os):World :=
 let w0:=World.holding Tryz.prog os ⟨#[],#[.slice none 0 0,.slice none 0 0],[]⟩
 let w1:={ w0 with heap:=w0.heap.modify 0 fun
   | .cells _ t frozen => .cells AuC.cells.toArray t frozen
   | o=>o }
 let w2:={ w1 with heap:=w1.heap.modify 8 fun
   | .cells _ t frozen => .cells AtO.cells.toArray t frozen
   | o=>o }
 let w3:={ w2 with heap:=w2.heap.modify 9 fun
   | .cells _ t frozen => .cells AtQ.cells.toArray t frozen
   | o=>o }
 let w4:={ w3 with heap:=w3.heap.modify 3 fun
   | .cells _ t frozen => .cells Ats.cells.toArray t frozen
   | o=>o }
 let w5:={ w4 with heap:=w4.heap.modify 1 fun
   | .cells _ t frozen => .cells At9.cells.toArray t frozen
   | o=>o }
 let w6:={ w5 with heap:=w5.heap.modify 7 fun
   | .cells _ t frozen => .cells (AUh Rows.laid_unicode_utf8_acceptRanges).toArray t frozen
   | o=>o }
 let w7:={ w6 with heap:=w6.heap.modify 6 fun
   | .cells _ t frozen => .cells (AUh Rows.laid_unicode_utf8_first).toArray t frozen
   | o=>o }
 let w8:={ w7 with heap:=(w7.heap.push (.cells #[.string ⟨([118,97,108,117,101,32,111,117,116,32,111,102,32,114,97,110,103,101]:List UInt8).toArray⟩] 187 (0,0))).modify 5 fun
   | .cells _ t frozen => .cells #[.iface 185 (.pointer (some ⟨w7.heap.size,0,none⟩))] t frozen
   | o=>o }
 let w9:={ w8 with heap:=(w8.heap.push (.cells #[.string ⟨([105,110,118,97,108,105,100,32,115,121,110,116,97,120]:List UInt8).toArray⟩] 187 (0,0))).modify 4 fun
   | .cells _ t frozen => .cells #[.iface 185 (.pointer (some ⟨w8.heap.size,0,none⟩))] t frozen
   | o=>o }
 w9
theorem AIY (os:Os) (args:Array Value):laidMetH Tryz.prog Rows.diffAppliesRow.laid ((AKl os).forCall (fun _ _=>0) ⟨#[],args,[]⟩).memory :=
 laidMetH_of_parts (laidMet_of_run' 8 (by kernel_rfl) (by kernel_rfl)) (by kernel_rfl)
theorem AUM:laidOutB Tryz.prog=true∧mapsRowed Tryz.prog=true :=
 have H:=ClosedOfChecked.allSpec_of Tryz.checked.wellFormed (by kernel_rfl:Tryz.checked.prog.types=Tryz.checked.src.types)
 ⟨ClosedOfChecked.laidOutB_of H (by kernel_rfl),ClosedOfChecked.mapsRowed_of H⟩
theorem Avw {a b:Bool} (h:a=true) (k:b=true):(a && b)=true:=by rw [h,k]; rfl
theorem AZH:(Rows.diffAppliesRow.wf (OpenSpec.ofChange Rows.diffAppliesSpec))=true:=by kernel_rfl
theorem AZ1:(laidOutB Tryz.prog)=true:=AUM.1
theorem A0g:(mapsRowed Tryz.prog)=true:=AUM.2
theorem A0m:(Tryz.f3.params.all (Tryz.prog.readableRec ·))=true:=by kernel_rfl
theorem A0q:(namedTie Tryz.prog Rows.diffAppliesRow.named Rows.diffAppliesSpec.vars)=true:=by kernel_rfl
theorem AZZ:((Rows.diffAppliesRow.stops == []))=true:=by kernel_rfl
theorem A0H:((Tryz.prog.stops == []))=true:=by kernel_rfl
theorem AZM:((Rows.diffAppliesRow.knobs == []))=true:=by kernel_rfl
theorem AZz:((Tryz.prog.stopKnobs == []))=true:=by kernel_rfl
theorem AZD:((Rows.diffAppliesRow.inPlace == Tryz.prog.inPlace 3))=true:=by kernel_rfl
theorem AYp:((Rows.diffAppliesRow.unfollowed == Tryz.prog.unfollowed 3))=true:=by kernel_rfl
theorem AW5:((Rows.diffAppliesRow.recurses == Tryz.prog.recurses 3))=true:=by kernel_rfl
theorem AWG:((Rows.diffAppliesRow.named == Tryz.prog.varsNamed 3))=true:=by kernel_rfl
theorem AWV:((Rows.diffAppliesRow.maps == (Tryz.f3.params.toList++Rows.diffAppliesSpec.plain.varTypes Tryz.prog).any (Tryz.prog.mapsRec ·)))=true:=by kernel_rfl
theorem AX2:((Rows.diffAppliesRow.ifaces == (Tryz.f3.params.toList++Rows.diffAppliesSpec.plain.varTypes Tryz.prog).any (Tryz.prog.ifacesRec ·)))=true:=by kernel_rfl
theorem AXo:((Rows.diffAppliesRow.mapsOut == Tryz.prog.mapsAmong Tryz.f3.resultTypes.toList))=true:=by kernel_rfl
theorem AWF:((Rows.diffAppliesRow.loops == (Tryz.f3.params.toList++Rows.diffAppliesSpec.plain.varTypes Tryz.prog).any (Tryz.prog.loopsFrom ·)))=true:=by kernel_rfl
theorem AXz:((Rows.diffAppliesRow.wideKeys == (Tryz.f3.params.toList++Rows.diffAppliesSpec.plain.varTypes Tryz.prog++Tryz.f3.resultTypes.toList).any (Tryz.prog.wideKeysFrom ·)))=true:=by kernel_rfl
theorem AXV:(Rows.diffAppliesSpec.vars.all (Tryz.prog.varReadable ·))=true:=by kernel_rfl
theorem AXM:(Tryz.f3.resultTypes.all (fun t=>Tryz.prog.readableRec t && decide (t<Tryz.prog.types.size)))=true:=by kernel_rfl
theorem AYM:((Rows.diffAppliesRow.ifacesOut == Tryz.f3.resultTypes.toList.any (Tryz.prog.ifacesRec ·)))=true:=by kernel_rfl
theorem AWC:((Rows.diffAppliesRow.loopsOut == Tryz.f3.resultTypes.toList.any (Tryz.prog.loopsFrom ·)))=true:=by kernel_rfl
theorem AXF:((Rows.diffAppliesRow.plainKeys == Tryz.prog.plainKeys))=true:=by kernel_rfl
theorem AW7:(Rows.diffAppliesRow.shortTexts.isNone)=true:=by kernel_rfl
theorem AYr:(Tryz.prog.stopsHeard)=true:=by kernel_rfl
theorem AYe:(Tryz.prog.mayEnter)=true:=by kernel_rfl
theorem AXL:((Rows.diffAppliesRow.lifted == Tryz.prog.liftsFinal))=true:=by kernel_rfl
theorem AYq:((Tryz.prog.make == some Rows.diffAppliesRow.make))=true:=by kernel_rfl
theorem AWS:((Rows.diffAppliesRow.kinds == (if Rows.diffAppliesRow.domain.isEmpty then [] else Tryz.f3.params.toList.map fun t=>match Tryz.prog.underlying t with | some (.int k)=>some k | _=>none)))=true:=by kernel_rfl
theorem AWq:((Rows.diffAppliesRow.pinned == Rows.diffAppliesRow.pinnedBy))=true:=by kernel_rfl
theorem AW9:((Rows.diffAppliesRow.veiled == (Tryz.f3.params.toList++Rows.diffAppliesSpec.plain.varTypes Tryz.prog++Tryz.f3.resultTypes.toList).any (Tryz.prog.veiledRec ·)))=true:=by kernel_rfl
theorem AXp:(Rows.diffAppliesRow.veiledFits Tryz.prog Tryz.f3.params.toList (Tryz.f3.params.toList++Rows.diffAppliesSpec.plain.varTypes Tryz.prog++Tryz.f3.resultTypes.toList))=true:=by kernel_rfl
set_option maxRecDepth 100000 in
theorem AQ1:((Rows.diffAppliesRow.wf (OpenSpec.ofChange Rows.diffAppliesSpec)) && (laidOutB Tryz.prog) && (mapsRowed Tryz.prog) && (Tryz.f3.params.all (Tryz.prog.readableRec ·)) && (namedTie Tryz.prog Rows.diffAppliesRow.named Rows.diffAppliesSpec.vars) && ((Rows.diffAppliesRow.stops == [])) && ((Tryz.prog.stops == [])) && ((Rows.diffAppliesRow.knobs == [])) && ((Tryz.prog.stopKnobs == [])) && ((Rows.diffAppliesRow.inPlace == Tryz.prog.inPlace 3)) && ((Rows.diffAppliesRow.unfollowed == Tryz.prog.unfollowed 3)) && ((Rows.diffAppliesRow.recurses == Tryz.prog.recurses 3)) && ((Rows.diffAppliesRow.named == Tryz.prog.varsNamed 3)) && ((Rows.diffAppliesRow.maps == (Tryz.f3.params.toList++Rows.diffAppliesSpec.plain.varTypes Tryz.prog).any (Tryz.prog.mapsRec ·))) && ((Rows.diffAppliesRow.ifaces == (Tryz.f3.params.toList++Rows.diffAppliesSpec.plain.varTypes Tryz.prog).any (Tryz.prog.ifacesRec ·))) && ((Rows.diffAppliesRow.mapsOut == Tryz.prog.mapsAmong Tryz.f3.resultTypes.toList)) && ((Rows.diffAppliesRow.loops == (Tryz.f3.params.toList++Rows.diffAppliesSpec.plain.varTypes Tryz.prog).any (Tryz.prog.loopsFrom ·))) && ((Rows.diffAppliesRow.wideKeys == (Tryz.f3.params.toList++Rows.diffAppliesSpec.plain.varTypes Tryz.prog++Tryz.f3.resultTypes.toList).any (Tryz.prog.wideKeysFrom ·))) && (Rows.diffAppliesSpec.vars.all (Tryz.prog.varReadable ·)) && (Tryz.f3.resultTypes.all (fun t=>Tryz.prog.readableRec t && decide (t<Tryz.prog.types.size))) && ((Rows.diffAppliesRow.ifacesOut == Tryz.f3.resultTypes.toList.any (Tryz.prog.ifacesRec ·))) && ((Rows.diffAppliesRow.loopsOut == Tryz.f3.resultTypes.toList.any (Tryz.prog.loopsFrom ·))) && ((Rows.diffAppliesRow.plainKeys == Tryz.prog.plainKeys)) && (Rows.diffAppliesRow.shortTexts.isNone) && (Tryz.prog.stopsHeard) && (Tryz.prog.mayEnter) && ((Rows.diffAppliesRow.lifted == Tryz.prog.liftsFinal)) && ((Tryz.prog.make == some Rows.diffAppliesRow.make)) && ((Rows.diffAppliesRow.kinds == (if Rows.diffAppliesRow.domain.isEmpty then [] else Tryz.f3.params.toList.map fun t=>match Tryz.prog.underlying t with | some (.int k)=>some k | _=>none))) && ((Rows.diffAppliesRow.pinned == Rows.diffAppliesRow.pinnedBy)) && ((Rows.diffAppliesRow.veiled == (Tryz.f3.params.toList++Rows.diffAppliesSpec.plain.varTypes Tryz.prog++Tryz.f3.resultTypes.toList).any (Tryz.prog.veiledRec ·))) && (Rows.diffAppliesRow.veiledFits Tryz.prog Tryz.f3.params.toList (Tryz.f3.params.toList++Rows.diffAppliesSpec.plain.varTypes Tryz.prog++Tryz.f3.resultTypes.toList)))=true:=(Avw (Avw (Avw (Avw (Avw (Avw (Avw (Avw (Avw (Avw (Avw (Avw (Avw (Avw (Avw (Avw (Avw (Avw (Avw (Avw (Avw (Avw (Avw (Avw (Avw (Avw (Avw (Avw (Avw (Avw (Avw AZH AZ1) A0g) A0m) A0q) AZZ) A0H) AZM) AZz) AZD) AYp) AW5) AWG) AWV) AX2) AXo) AWF) AXz) AXV) AXM) AYM) AWC) AXF) AW7) AYr) AYe) AXL) AYq) AWS) AWq) AW9) AXp)
set_option maxRecDepth 100000 in
theorem ALl:joinedFacts Tryz.prog 3 Tryz.f3 Rows.diffAppliesSpec Rows.diffAppliesRow=true:=AQ1
set_option maxRecDepth 100000 in
theorem lifted (os:Os) (started:os.Started) (H:Type) (enc:TypeId×Value→H) :
  ReturnsInHanded {} Tryz.checked os 3 .any (fun w args=>(Rows.diffAppliesSpec.pre enc Tryz.prog Tryz.f3 [] false w args∧laidMetH Tryz.prog Rows.diffAppliesRow.laid w)∧sizedMet enc Tryz.prog Tryz.f3 (OpenSpec.ofChange Rows.diffAppliesSpec) false w args) (Rows.diffAppliesSpec.post enc Tryz.prog Tryz.f3 false true false false):=by
 refine AFd (C:=Tryz.checked) (X:=fun w _=>laidMetH Tryz.prog Rows.diffAppliesRow.laid w) (fun _ _ _ hh h=>h.of_heap hh) own started (by kernel_rfl) Tryz.func3
  (ChangeSpec.witness_at (enc:=enc) (C:=Tryz.checked) (os:=os) (X:=fun w _=>laidMetH Tryz.prog Rows.diffAppliesRow.laid w) false (AKl os) #[.slice none 0 0,.slice none 0 0] 8 rfl (by kernel_rfl) (by kernel_rfl) (by kernel_rfl) (by kernel_rfl) (by kernel_rfl) (AIY os _)) ?_
 intro W base args ds gs before hval0 hW hcnd hsz0 hL hsh _
 obtain ⟨t0,a0,t1,a1,m,hG⟩:=AKx hL hsh
 letI:AtW:=giM t0 a0 t1 a1 m
 haveI:At4:=AD4 t0 a0 t1 a1 m
 haveI:AuM:=AyM t0 a0 t1 a1 m
 haveI:AuN:=AyH t0 a0 t1 a1 m
 haveI:Ati:=Axo t0 a0 t1 a1 m
 haveI:Atw:=ACJ t0 a0 t1 a1 m
 haveI:Atx:=AE2 t0 a0 t1 a1 m
 haveI:Atv:=ADQ t0 a0 t1 a1 m
 haveI:AvU:=⟨m,by kernel_rfl⟩
 have hsz:(DataW.weightsEach Tryz.prog (Tryz.f3.params.toList++Rows.diffAppliesSpec.plain.varTypes Tryz.prog) (ds++gs)).all (· ≤ reachBytes)=true:=hsz0
 have hval:∀ (j:Nat) t v,Tryz.f3.params[j]?=some t→args[j]?=some v→Value.okWide Tryz.prog W .any base t v:=hval0
 have hW':=hW
 obtain ⟨p,q,hA0,hV,rfl,hfz,hnd⟩:=hW
 have hA:DataW.TrodAll enc Tryz.prog W 0 (fun _=>true) true Tryz.f3.params.toList args.toList ds p:=hA0
 obtain ⟨rfl,rfl⟩:=trodVars_none hV
 have hsz2:(DataW.weightsEach Tryz.prog Tryz.f3.params.toList ds).all (· ≤ reachBytes)=true:=by
  have e:Tryz.f3.params.toList++Rows.diffAppliesSpec.plain.varTypes Tryz.prog=Tryz.f3.params.toList:=by simp [ChangeSpec.plain,Rows.diffAppliesSpec]; rfl
  rw [e,List.append_nil] at hsz; exact hsz
 have hA':=hA
 have hps:(Tryz.f3.params.toList.all fun t=>Tryz.prog.readableRec t && decide (t<Tryz.prog.types.size))=true:=by kernel_rfl
 have hv2:∀ (j:Nat) t v,Tryz.f3.params.toList[j]?=some t→args.toList[j]?=some v→∃ base,Value.okWide Tryz.prog W .any base t v:=fun j t v h1 h2=>⟨base,hval j t v (by rw [←Array.getElem?_toList]; exact h1) (by rw [←Array.getElem?_toList]; exact h2)⟩
 rw [Tryz.params3] at hA hsz2 hv2
 obtain ⟨dsE,hdsE⟩:∃ x,x=ds:=⟨_,rfl⟩
 refine (AWB (f:=3) (ACX (AF4 Tryz.underlying22 Tryz.underlying5 (by kernel_rfl) (by kernel_rfl)) (AGb Tryz.underlying22) (fun _=>rfl) (ACX (AF4 Tryz.underlying22 Tryz.underlying5 (by kernel_rfl) (by kernel_rfl)) (AGb Tryz.underlying22) (fun _=>rfl) AI9)) (fun a h=>AK6 a.1 a.2.1 h.1 h.2.1) hA hv2 hsz2 (hG)).mono fun e W' ⟨he,bel⟩ => ?_
 subst he
 have hB:=AFb AUM.1 bel hps hA'
 have hAo:=hA
 obtain ⟨v0,vs0,d0,ds0,p0,q0,ha0,hd0,hp0,h0,r0⟩:=trodAll_cons hAo
 obtain ⟨v1,vs1,d1,ds1,p1,q1,ha1,hd1,hp1,h1,r1⟩:=trodAll_cons r0
 obtain ⟨hz1,hz2,hz3⟩:=trodAll_nil r1
 have hd:ds=[d0,d1]:=by rw [hd0,hd1,hz2]
 subst hd
 exact ⟨_,rfl,_,_,_,[],_,[],hW',trodAll_mk1 (shut_bool Tryz.underlying4 _),hB,rfl,bel.frame _,fun h=>by cases h⟩
theorem over:Rows.diffAppliesRow.holds Tryz.pinned (OpenSpec.ofChange Rows.diffAppliesSpec) :=
 OpenClaim.holds_of_wide 3 Tryz.f3 rfl rfl rfl rfl rfl rfl rfl ⟨rfl,rfl,rfl,rfl,rfl⟩ rfl rfl rfl rfl rfl (by kernel_rfl) Tryz.func3 ALl
  (of_decide_eq_true (by kernel_rfl)) (by unfold Func.isWrapper; first | (rw [if_pos (by decide +kernel)]; kernel_rfl) | (rw [if_neg (by decide +kernel)]; exact ⟨rfl,rfl⟩))
  (fun os started H enc _=>lifted os started H enc)
theorem stands:(Tryz.f3.params.toList.all fun t => !Tryz.prog.wantsStandIn t)=true:=by kernel_rfl
theorem proved:Rows.DiffAppliesCardSaid :=
 Claim7.holds_tied_plain_at .later [] [.data,.data,.data,.data,.handle,.sentinel,.sentinel,.widerDeep,.pinned] true (true, "62a5829ec729229048cd84d384c4567494042dda76116d78a6e039e1f1c832a8") true
  over (fun _ h=>by cases h) (by kernel_rfl) (fun _ h=>by cases h) diffApplies_row_tie rfl ⟨rfl,rfl⟩ (by kernel_rfl) rfl
  (fun f fn hf hfn=>by
   obtain rfl:f=3:=(Option.some.inj ((show Tryz.prog.funcNamed "gitlike/gitlikelaw10.DiffApplies" = some 3 by kernel_rfl).symm.trans hf)).symm
   obtain rfl:fn=Tryz.f3:=(Option.some.inj (Tryz.func3.symm.trans hfn)).symm
   exact ⟨by kernel_rfl,fun j t ht=>by
    rw [←Array.getElem?_toList] at ht
    have:=List.all_eq_true.1 stands t (List.mem_of_getElem? ht)
    exact (show Tryz.prog.wantsStandIn t=false by simpa using this)⟩)
  (by kernel_rfl)
#print axioms proved
end Go.Proofs.YtkoilgokgaigbaaGreatDoor.diffApplies
