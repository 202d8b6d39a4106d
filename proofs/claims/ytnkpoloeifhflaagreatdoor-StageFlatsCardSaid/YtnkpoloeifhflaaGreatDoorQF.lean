/- What the proof of StageFlatsCard stands on (texts merged; names shortened by a program): part 6. -/
import Derived.Test.YtnkpoloeifhflaaGreatDoorQE
import Derived.Test.YtnkpoloeifhflaaGreatDoorQD
import Derived.Test.YtnkpoloeifhflaaGreatDoorProg
import Derived.KernelRfl
import Derived.WalkKit
import Derived.WalkSpells
import Derived.WalkLawsBesides
import Derived.Lib.Hide
import Derived.Deep.QuietTactic
import Derived.BigQuiet
import Derived.Deep.OwnRows
import Derived.Laws.CopyOwn
import Derived.Laws.BitsAllLaws
import Derived.Lib.Bytealg
import Derived.Lib.Strings
import Derived.Laws.Cover1
import Derived.LaidEql
import Derived.Stop.Asserts
import Derived.RowKitTokens
set_option linter.defProp false
set_option linter.unusedSectionVars false
set_option linter.unusedSimpArgs false
set_option linter.unusedVariables false
namespace Go.Proofs.YtnkpoloeifhflaaGreatDoor
section
open Go.RowKit
variable [AL]
def V4 (m:Int):Bool:=m == 16384 || m == 33188 || m == 33261 || m == 40960
def ZB (m:Int):List UInt8:=if m=16384 then [52,48,48,48,48] else if m=33188 then [49,48,48,54,52,52] else if m=33261 then [49,48,48,55,53,53] else if m=40960 then [49,50,48,48,48,48] else []
theorem LW {m:Int} (h:V4 m=true):m=16384∨m=33188∨m=33261∨m=40960:=by
 unfold V4 at h
 simp only [Bool.or_eq_true,beq_iff_eq] at h
 omega
theorem A32 {m:Int} (h:V4 m=true):Bh1 6 m.toNat=ZB m:=by
 rcases LW h with rfl | rfl | rfl | rfl<;>decide
theorem Ard {m:Int}:ZB m=[]↔V4 m=false:=by
 unfold ZB V4
 by_cases h1:m=16384
 ·subst h1; decide
 by_cases h2:m=33188
 ·subst h2; decide
 by_cases h3:m=33261
 ·subst h3; decide
 by_cases h4:m=40960
 ·subst h4; decide
 simp [h1,h2,h3,h4]
def enB (e:En):List UInt8:=ZB e.mode++32::(e.name++0::e.id)
def Al8 (e:En):Prop:=V4 e.mode=true∧TY e.name=true∧e.id.length=20
def Yq (l:List En):Prop:=l.length≤2000∧(∀ e∈l,Al8 e)∧(l.map (·.name)).Nodup
theorem Aar {s:List UInt8} (h:TY s=true):s≠[]∧s.length≤50∧47∉s∧0∉s:=by
 unfold TY at h
 simp only [decide_eq_true_eq] at h
 refine ⟨h.1,h.2.2.2.2.1,fun hm=>h.2.2.2.2.2 ⟨47,hm,by simp⟩,fun hm=>h.2.2.2.2.2 ⟨0,hm,by simp⟩⟩
theorem Bhn {x y:En} (hx:TY x.name=true) (hy:TY y.name=true) (h:UT x=UT y):x.name=y.name:=by
 have a:=(Aar hx).2.2.1
 have b:=(Aar hy).2.2.1
 unfold UT at h
 split at h<;>split at h
 ·exact List.append_cancel_right h
 ·exact absurd (h▸(by simp:(47:UInt8)∈x.name++[47])) b
 ·exact absurd (h▸(by simp:(47:UInt8)∈y.name++[47])) a
 ·exact h
abbrev SE (l:List En):Prop:=l.Pairwise fun x y=>ltB (UT x) (UT y)
theorem SE.ext:∀ {a b:List En},SE a→SE b→a.Perm b→a=b
 | [],b,_,_,h=>h.nil_eq
 | x::a,[],_,_,h=>absurd h.length_eq (by simp)
 | x::a,y::b,ha,hb,h=>by
  rw [SE,List.pairwise_cons] at ha hb
  have hxy:x=y:=by
   rcases List.mem_cons.1 (h.mem_iff.1 (List.mem_cons_self ..)) with e | e
   ·exact e
   ·rcases List.mem_cons.1 (h.mem_iff.2 (List.mem_cons_self ..)) with e2 | e2
    ·exact e2.symm
    ·exact absurd (Qj (ha.1 y e2) (hb.1 x e)) (Gf _)
  subst hxy
  rw [SE.ext ha.2 hb.2 (List.Perm.cons_inv h)]
theorem Arm {l:List En} (h:Yq l):(l.map UT).Nodup:=by
 obtain ⟨_,h2,h3⟩:=h
 rw [List.nodup_iff_pairwise_ne,List.pairwise_map] at h3 ⊢
 exact List.Pairwise.imp_of_mem (fun ha hb hne e=>hne (Bhn (h2 _ ha).2.1 (h2 _ hb).2.1 e)) h3
theorem SE.insert {out:List En} (h:SE out) {x:En} {at':Nat} (hle:at'≤out.length) (h1:∀ (k:Nat) y,k<at'→out[k]?=some y→ltB (UT y) (UT x)) (h2:∀ y,out[at']?=some y→ltB (UT x) (UT y)):SE (out.take at'++x::out.drop at'):=by
 have hT:∀ y∈out.take at',ltB (UT y) (UT x):=by
  intro y hy
  obtain ⟨k,hk⟩:=List.getElem?_of_mem hy
  rw [List.getElem?_take] at hk
  split at hk
  ·exact h1 k y (by assumption) hk
  ·cases hk
 have hD:∀ y∈out.drop at',ltB (UT x) (UT y):=by
  intro y hy
  obtain ⟨k,hk⟩:=List.getElem?_of_mem hy
  rw [List.getElem?_drop] at hk
  have hlt:at'<out.length:=by have:=(List.getElem?_eq_some_iff.1 hk).1; omega
  have h5:=h2 _ (List.getElem?_eq_getElem hlt)
  rcases Nat.eq_zero_or_pos k with rfl | hp
  ·rw [Nat.add_zero,List.getElem?_eq_getElem hlt] at hk; cases hk; exact h5
  ·have hlt2:=(List.getElem?_eq_some_iff.1 hk).1
   have h6:=(List.pairwise_iff_getElem.1 h) at' (at'+k) hlt hlt2 (by omega)
   rw [List.getElem?_eq_getElem hlt2] at hk; cases hk
   exact Qj h5 h6
 rw [SE,List.pairwise_append,List.pairwise_cons]
 refine ⟨h.sublist (List.take_sublist at' out),⟨hD,h.sublist (List.drop_sublist at' out)⟩,fun a ha b hb => ?_⟩
 rcases List.mem_cons.1 hb with rfl | hb
 ·exact hT a ha
 ·exact Qj (hT a ha) (hD b hb)
theorem AqO {out p:List En} {x:En} {k:Nat} (h:out.Perm p):(out.take k++x::out.drop k).Perm (p++[x]):=by
 have h1:(out.take k++x::out.drop k).Perm (x::(out.take k++out.drop k)):=List.perm_middle
 rw [List.take_append_drop] at h1
 exact h1.trans ((h.cons x).trans (List.perm_append_singleton x p).symm)
def QB (l:List En) (b:List UInt8):Prop:=Yq l∧SE l∧l.flatMap enB=b
theorem Bgs:∀ (f:Nat) (s:List UInt8),s.all Abt=true→s≠[]→s[0]?≠some 48→s.length≤f→Bh1 f (AdQ 0 s)=s:=by
 intro f
 induction f with
 | zero =>
  intro s _ h1 _ h2
  exact absurd (List.eq_nil_of_length_eq_zero (by omega)) h1
 | succ f ih =>
  intro s hall hne h0 hl
  have hs:s=s.dropLast++[s.getLast hne]:=(List.dropLast_concat_getLast hne).symm
  generalize s.getLast hne=d at hs
  generalize s.dropLast=p at hs
  subst hs
  rw [List.all_append] at hall
  simp only [List.all_cons,List.all_nil,Bool.and_true,Bool.and_eq_true] at hall
  obtain ⟨hp,hd⟩:=hall
  unfold Abt at hd
  simp only [Bool.and_eq_true,decide_eq_true_eq] at hd
  have hnum:AdQ 0 (p++[d])=AdQ 0 p*8+(d.toNat - 48):=by rw [Af5]; rfl
  have hdd:UInt8.ofNat (48+(d.toNat - 48))=d:=by rw [show 48+(d.toNat - 48)=d.toNat by omega]; exact UInt8.ofNat_toNat
  rw [hnum]
  by_cases hpe:p=[]
  ·subst hpe
   have e0:AdQ 0 []=0:=rfl
   rw [e0,Bh1,if_pos (by omega)]
   rw [show 48+(0*8+(d.toNat - 48))=48+(d.toNat - 48) by omega,hdd]; rfl
  ·have hp0:p[0]?≠some 48:=by
    intro e
    rw [List.getElem?_append_left (by have:=List.length_pos_iff.2 hpe; omega)] at h0
    exact h0 e
   have hpos:1≤AdQ 0 p:=by
    obtain ⟨c,q,rfl⟩:∃ c q,p=c::q:=by
     cases p with
     | nil=>exact absurd rfl hpe
     | cons c q=>exact ⟨c,q,rfl⟩
    have hc:Abt c=true:=by simp at hp; exact hp.1
    unfold Abt at hc
    simp only [Bool.and_eq_true,decide_eq_true_eq] at hc
    have hc48:c.toNat≠48:=fun e=>hp0 (by simp [show c=48 from UInt8.toNat_inj.1 e])
    have:=ApA q (0*8+(c.toNat - 48))
    show 1≤AdQ (0*8+(c.toNat - 48)) q
    omega
   rw [Bh1,if_neg (by omega),show (AdQ 0 p*8+(d.toNat - 48)) / 8=AdQ 0 p by omega,show (AdQ 0 p*8+(d.toNat - 48)) % 8=d.toNat - 48 by omega,ih p hp hpe hp0 (by simp at hl; omega),hdd]
theorem A3g {s:List UInt8} {m:Int} (hp:pO s=some m.toNat) (hm:V4 m=true) (h0:s[0]?≠some 48):s=ZB m:=by
 unfold pO at hp
 split at hp
 ·rename_i h
  obtain ⟨h1,h2,h3⟩:=h
  have e:=Option.some.inj hp
  have k1:=Bgs (s.length+6) s h2 h1 h0 (by omega)
  rw [e] at k1
  rw [←A32 hm,←k1]
  have big:∀ (f g u:Nat),u<8 ^ f→1≤f→Bh1 (f+g) u=Bh1 f u:=by
   intro f
   induction f with
   | zero=>intro g u _ h; omega
   | succ f ih =>
    intro g u hu _
    rw [show f+1+g=f+g+1 by omega,Bh1,Bh1]
    by_cases c:u<8
    ·rw [if_pos c,if_pos c]
    ·rw [if_neg c,if_neg c,ih g (u / 8) (by rw [Nat.pow_succ] at hu; omega) (by
      rcases Nat.eq_zero_or_pos f with h | h
      ·subst h; simp at hu; omega
      ·exact h)]
  rw [show s.length+6=6+s.length by omega]
  refine big 6 s.length m.toNat ?_ (by omega)
  rcases LW hm with rfl | rfl | rfl | rfl<;>decide
 ·cases hp
theorem Bjt {m:Int} (h:V4 m=true):pO (ZB m)=some m.toNat∧(ZB m)[0]?≠some 48∧32∉ZB m∧ZB m≠[]:=by
 rcases LW h with rfl | rfl | rfl | rfl<;>decide
end
section
open Go.RowKit
abbrev X0 (l:List UInt8):TV := .arr 20 1 (l.map by8)
theorem A3c {k l:List UInt8} {x:TV}:∀ {es:List (List UInt8×TV)},Vr k (AbS l x es)=if l=k then some x else Vr k es
 | []=>by simp [AbS,Vr]
 | (q,y)::es=>by
  rw [AbS]
  by_cases hq:q=l
  ·subst hq
   rw [if_pos rfl,Vr,Vr]
   by_cases h:q=k<;>simp [h]
  ·rw [if_neg hq,Vr,Vr,A3c]
   by_cases h:q=k
   ·subst h; rw [if_pos rfl,if_neg (fun e=>hq e.symm),if_pos rfl]
   ·rw [if_neg h,if_neg h]
theorem AoB {k:List UInt8} {x:TV} {es:List (List UInt8×TV)}:Vr k (AbS k x es)=some x:=by rw [A3c,if_pos rfl]
def Cnt (es:List (List UInt8×TV)) (m:List (List UInt8)):Prop:=∀ l,(Vr l es).getD (i64 ((0:Nat):Int))=i64 ((m.count l:Nat):Int)
theorem Cnt.add {es:List (List UInt8×TV)} {m:List (List UInt8)} (h:Cnt es m) (l:List UInt8):Cnt (AbS l (i64 ((m.count l+1:Nat):Int)) es) (m++[l]):=by
 intro k
 rw [A3c]
 by_cases hk:l=k
 ·subst hk; simp
 ·rw [if_neg hk,h k]; simp [hk]
theorem AqZ {k:List UInt8} {x:TV}:∀ {es:List (List UInt8×TV)},(AbS k x es).length=if Vr k es=none then es.length+1 else es.length
 | []=>by simp [AbS,Vr]
 | (q,y)::es=>by
  rw [AbS,Vr]
  by_cases hq:q=k
  ·subst hq; simp
  ·rw [if_neg hq,if_neg hq,List.length_cons,AqZ,List.length_cons]
   split<;>rfl
structure Bm9 (es:List (List UInt8×TV)) (m:List (List UInt8)):Prop where
 cnt:Cnt es m
 has:∀ l,Vr l es≠none↔l∈m
 le:es.length≤m.length
 nd:es.length=m.length↔m.Nodup
theorem Bm9.nil:Bm9 [] []:=⟨fun l=>by simp [Vr],fun l=>by simp [Vr],by simp,by simp⟩
theorem Bm9.add {es:List (List UInt8×TV)} {m:List (List UInt8)} (h:Bm9 es m) (l:List UInt8):Bm9 (AbS l (i64 ((m.count l+1:Nat):Int)) es) (m++[l]):=by
 have hl:=AqZ (k:=l) (x:=i64 ((m.count l+1:Nat):Int)) (es:=es)
 refine ⟨h.cnt.add l,fun k => ?_,?_,?_⟩
 ·rw [A3c]
  by_cases hk:l=k
  ·subst hk; simp
  ·rw [if_neg hk,h.has k]; simp [Ne.symm hk]
 ·rw [hl,List.length_append,List.length_singleton]
  have:=h.le
  split<;>omega
 ·rw [hl,List.length_append,List.length_singleton,List.nodup_append]
  by_cases hm:l∈m
  ·rw [if_neg ((h.has l).2 hm)]
   have:=h.le
   constructor
   ·intro e; omega
   ·rintro ⟨_,_,g⟩
    exact absurd rfl (g l hm l (by simp))
  ·have hn:Vr l es=none:=Classical.byContradiction fun k=>hm ((h.has l).1 k)
   rw [if_pos hn]
   have:=h.nd
   constructor
   ·intro e
    refine ⟨this.1 (by omega),by simp,fun a ha b hb => ?_⟩
    rw [List.mem_singleton] at hb
    subst hb
    exact fun e=>hm (e▸ha)
   ·rintro ⟨g,_,_⟩
    have:=this.2 g
    omega
end
section
open Go.RowKit
variable [AL]
abbrev enT (e:En):TV := .agg [i64 e.mode,ts e.name,X0 e.id]
theorem BjU (m:Int):BD Tryz.prog 69 [i64 m] (fun r=>r=tb (V4 m)):=by
 refine Au.toPureV (Ajk (by simp) ?_)
 by_cases h1:m=16384
 ·subst h1
  simp -dsimp (disch:=first | assumption | omega | (simp only [Ac];try omega)) only [↓Ag,Ae,Ai,Ah,eq_self,Nat.reduceEqDiff,↓reduceIte,reduceCtorEq,↓Jo,↓FU,↓Jp]
  rfl
 by_cases h2:m=33188
 ·subst h2
  simp -dsimp (disch:=first | assumption | omega | (simp only [Ac];try omega)) only [↓Ag,Ae,Ai,Ah,eq_self,Nat.reduceEqDiff,↓reduceIte,reduceCtorEq,↓Jo,↓FU,↓Jp]
  rfl
 by_cases h3:m=33261
 ·subst h3
  simp -dsimp (disch:=first | assumption | omega | (simp only [Ac];try omega)) only [↓Ag,Ae,Ai,Ah,eq_self,Nat.reduceEqDiff,↓reduceIte,reduceCtorEq,↓Jo,↓FU,↓Jp]
  rfl
 by_cases h4:m=40960
 ·subst h4
  simp -dsimp (disch:=first | assumption | omega | (simp only [Ac];try omega)) only [↓Ag,Ae,Ai,Ah,eq_self,Nat.reduceEqDiff,↓reduceIte,reduceCtorEq,↓Jo,↓FU,↓Jp]
  rfl
 ·have e1:¬ m=((16384:Nat):Int):=h1
  have e2:¬ m=((33188:Nat):Int):=h2
  have e3:¬ m=((33261:Nat):Int):=h3
  have e4:¬ m=((40960:Nat):Int):=h4
  simp -dsimp (disch:=first | assumption | omega | (simp only [Ac];try omega)) only [↓Ag,Ae,Ai,Ah,eq_self,Nat.reduceEqDiff,↓reduceIte,reduceCtorEq,↓Jo,↓FU,↓Jp,e1,e2,e3,e4]
  simp [V4,h1,h2,h3,h4]
def Ahv (l:List En):Bool:=decide (l.length≤2000) && l.all (fun e=>V4 e.mode && TY e.name) && decide (l.map (·.name)).Nodup
theorem AqW {l:List En} (h20:∀ e∈l,e.id.length=20):Ahv l=true↔Yq l:=by
 unfold Ahv Yq Al8
 simp only [Bool.and_eq_true,decide_eq_true_eq,List.all_eq_true]
 constructor
 ·rintro ⟨⟨a,b⟩,c⟩
  exact ⟨a,fun e he=>⟨(b e he).1,(b e he).2,h20 e he⟩,c⟩
 ·rintro ⟨a,b,c⟩
  exact ⟨⟨a,fun e he=>⟨(b e he).1,(b e he).2.1⟩⟩,c⟩
theorem BoH (l:List En) (h20:∀ e∈l,e.id.length=20) (hn:∀ e∈l,e.name.length≤9223372036854775807) (hl:l.length≤1000000):BD Tryz.prog 41 [.sl 22 (l.map enT)] (fun r=>r=tb (Ahv l)):=by
 refine Au.toPureV (AkH (by simp) ?_)
 simp -dsimp (disch:=first | assumption | omega | (simp only [Ac];try omega)) only [↓Ag,Ae,Ai,Ah,eq_self,Nat.reduceEqDiff,↓reduceIte,reduceCtorEq,↓Ajc,↓Ae2,↓AeT,↓AfH]
 refine Cj (fun q e H=>∃ (i:Nat) (es:List (List UInt8×TV)),q=l.length - i∧i≤l.length∧(∀ e∈l.take i,(V4 e.mode && TY e.name)=true)∧((l.take i).map (·.name)).Nodup∧Cnt es ((l.take i).map (·.name))∧H[0]?=some (.mpo .str es) ∧
  e=[(0,.sl 22 (l.map enT)),(3,.mp 0 0),(9,.sl 22 (l.map enT)),(10,i64 (l.length:Int)),(11,i64 (i:Int))]) l.length ?_ ?_
 ·exact ⟨0,[],by simp,by simp,by simp,by simp,fun l=>by simp [Vr],rfl,rfl⟩
 ·rintro q e H ⟨i,es,rfl,hi,hall,hnd,hc,hH,rfl⟩
  have hHl:0<H.length:=(List.getElem?_eq_some_iff.1 hH).1
  have hA:∀ T:List Ob,(H++T)[0]?=some (.mpo .str es):=fun T=>by rw [List.getElem?_append_left hHl]; exact hH
  by_cases hil:i<l.length
  ·have hg:l[i]?=some l[i]:=List.getElem?_eq_getElem hil
   have hm:=List.mem_of_getElem? hg
   have hx20:(l[i].id.map by8).length=20:=by rw [List.length_map]; exact h20 _ hm
   have hxn:=hn _ hm
   have hcl:=hc l[i].name
   have hadd:=hc.add l[i].name
   have hcount:((l.take i).map (·.name)).count l[i].name≤i:=by have:=List.count_le_length (a:=l[i].name) (l:=(l.take i).map (·.name)); rw [List.length_map,List.length_take] at this; omega
   have hts:=List.take_succ_eq_append_getElem hil
   have htm:(l.take (i+1)).map (·.name)=(l.take i).map (·.name)++[l[i].name]:=by rw [hts,List.map_append]; rfl
   have hnx:((l.take (i+1)).map (·.name)).Nodup↔l[i].name∉(l.take i).map (·.name):=by
    rw [htm,List.nodup_append]
    exact ⟨fun ⟨_,_,g⟩ hm=>g _ hm _ (by simp) rfl,fun g=>⟨hnd,by simp,fun a ha b hb=>by rw [List.mem_singleton] at hb; subst hb; exact fun e=>g (e▸ha)⟩⟩
   rw [←List.count_eq_zero] at hnx
   rw [←htm] at hadd
   have hpre:Ahv l=true→((l.take (i+1)).map (·.name)).Nodup∧(V4 l[i].mode && TY l[i].name)=true:=fun h=>by
    unfold Ahv at h
    simp only [Bool.and_eq_true,decide_eq_true_eq,List.all_eq_true] at h
    exact ⟨h.2.sublist ((List.take_sublist _ _).map _),by simpa using h.1.2 _ hm⟩
   have hall':(V4 l[i].mode && TY l[i].name)=true→∀ e∈l.take (i+1),(V4 e.mode && TY e.name)=true:=fun h e he=>by
    rw [hts] at he
    rcases List.mem_append.1 he with he | he
    ·exact hall e he
    ·rw [List.mem_singleton] at he; subst he; exact h
   have hmo:=BjU l[i].mode
   have hna:=Bkn l[i].name hxn
   have no:¬ Ahv l=true→tb false=tb (Ahv l):=fun h=>by rw [Bool.not_eq_true] at h; rw [h]
   generalize l[i]=x at *
   generalize ((l.take i).map (·.name)).count x.name=n at *
   have hS0:∀ (o:Ob) (T:List Ob),(H.set 0 o++T)[0]?=some o:=fun o T=>by rw [List.getElem?_append_left (by simpa using hHl),List.getElem?_set_self hHl]
   simp -dsimp (disch:=first | assumption | omega | (simp only [Ac];try omega)) only [↓Ag,Ae,Ai,Ah,eq_self,Nat.reduceEqDiff,↓reduceIte,Nat.reduceAdd,reduceCtorEq,↓Vq,↓VB,↓AeJ,↓AeA,hg,hA,hcl]
   have g0:=hS0 (.mpo .str (AbS x.name (.val (.int .i64 ((n+1:Nat):Int))) es)) [.obj 0 (enT x)]
   have gN:(H.set 0 (.mpo .str (AbS x.name (.val (.int .i64 ((n+1:Nat):Int))) es))++[Ob.obj 0 (enT x)])[H.length]?=some (.obj 0 (enT x)):=by rw [List.getElem?_append_right (by simp),List.length_set,Nat.sub_self]; rfl
   have gl:1≤(H.set 0 (.mpo .str (AbS x.name (.val (.int .i64 ((n+1:Nat):Int))) es))++[Ob.obj 0 (enT x)]).length:=by simp
   generalize H.set 0 (.mpo .str (AbS x.name (.val (.int .i64 ((n+1:Nat):Int))) es))++[Ob.obj 0 (enT x)]=H1 at *
   simp -dsimp (disch:=first | assumption | omega | (simp only [Ac];try omega)) only [↓Ag,Ae,Ai,Ah,eq_self,Nat.reduceEqDiff,↓reduceIte,reduceCtorEq,gN,↓Afs]
   refine hmo.calls rfl fun r hr => ?_
   subst hr
   cases hm1:V4 x.mode with
   | false =>
    simp -dsimp (disch:=first | assumption | omega | (simp only [Ac];try omega)) only [↓Ag,Ae,Ai,Ah,eq_self,Nat.reduceEqDiff,↓reduceIte,reduceCtorEq,↓NH]
    exact no fun h=>by have:=(hpre h).2; rw [hm1] at this; cases this
   | true =>
    simp -dsimp (disch:=first | assumption | omega | (simp only [Ac];try omega)) only [↓Ag,Ae,Ai,Ah,eq_self,Nat.reduceEqDiff,↓reduceIte,Nat.reduceAdd,reduceCtorEq,gN]
    refine hna.calls rfl fun r hr => ?_
    subst hr
    cases hm2:TY x.name with
    | false =>
     simp -dsimp (disch:=first | assumption | omega | (simp only [Ac];try omega)) only [↓Ag,Ae,Ai,Ah,eq_self,Nat.reduceEqDiff,↓reduceIte,reduceCtorEq,↓NH]
     exact no fun h=>by have:=(hpre h).2; rw [hm1,hm2] at this; cases this
    | true =>
     by_cases hn0:n=0
     ·subst hn0
      simp -dsimp (disch:=first | assumption | omega | (simp only [Ac];try omega)) only [↓Ag,Ae,Ai,Ah,eq_self,Nat.reduceLT,Nat.reduceEqDiff,↓reduceIte,Nat.reduceAdd,reduceCtorEq,gN,g0,AoB]
      exact Aq (l.length - (i+1)) (by omega) gl ⟨i+1,_,rfl,by omega,hall' (by rw [hm1,hm2]; rfl),hnx.2 rfl,hadd,g0,rfl⟩
     ·simp -dsimp (disch:=first | assumption | omega | (simp only [Ac];try omega)) only [↓Ag,Ae,Ai,Ah,eq_self,Nat.reduceEqDiff,↓reduceIte,Nat.reduceAdd,reduceCtorEq,gN,g0,AoB,↓NH]
      exact no fun h=>hn0 (hnx.1 (hpre h).1)
  ·have hi2:i=l.length:=by omega
   rw [hi2,List.take_length] at hnd hall
   simp -dsimp (disch:=first | assumption | omega | (simp only [Ac];try omega)) only [↓Ag,Ae,Ai,Ah,eq_self,Nat.reduceEqDiff,↓reduceIte,reduceCtorEq,↓Vq,↓VB,↓AeO,↓NH]
   unfold Ahv
   rw [decide_eq_true hnd,List.all_eq_true.2 hall]
   simp
end
section
variable [AL]
set_option maxRecDepth 100000
def WI:Af := .seq (.ops [po_ 18 (.fieldA 1 1 (.t 1)),po_ 19 (.load false 1 (.t 18)),po_ 20 (.lenV (.t 19)),po_ 21 (.bin 3 .gtr (.t 20) (ci_ 100000)),mv_ 17 21] [1,4,17])
 (.cond (.t 17)
 (.seq (.ops [po_ 22 (.iface 45 (ci_ 11)),po_ 2 (.mov (.c (.slice none 0 0))),mv_ 3 22] [2,3])
  (.ret))
 (.skip))
def WU:Af := .seq (.ops [mv_ 27 6,po_ 28 (.fieldA 1 1 (.t 1)),po_ 29 (.load false 1 (.t 28)),po_ 30 (.lenV (.t 29)),so_ 31 (.call 58 [.t 27,.t 30,.c (.int .i64 ((10:Nat):Int))]),mv_ 6 31] [1,6])
 (.seq (.sdraw 10003 [mv_ 32 6,po_ 35 (.fieldA 1 1 (.t 1)),po_ 36 (.load false 1 (.t 35)),⟨some 33,.s (.bslice 1 1 (.val (.int .u8 ((0:Nat):Int))) [⟨0,.c (.int .u8 ((0:Nat):Int))⟩]),none⟩,so_ 34 (.app 1 1 5 (.t 32) (.t 33)),so_ 37 (.app 1 1 5 (.t 34) (.t 36)),mv_ 2 37,po_ 3 (.mov (.c .nilIface))] [2,3])
 (.ret))
def Ws:Af := .seq (.ops [mv_ 23 4,so_ 24 (.s2b (.t 23)),⟨some 25,.s (.bslice 1 1 (.val (.int .u8 ((0:Nat):Int))) [⟨0,.c (.int .u8 ((32:Nat):Int))⟩]),none⟩,so_ 26 (.app 1 1 5 (.t 24) (.t 25)),mv_ 6 26] [1,6])
 WU
def Wi:Af := .seq (.block 0 (.seq (.ops [mv_ 14 5,po_ 15 (.un .not (.t 14)),mv_ 13 15] [1,4,13])
 (.cond (.t 13)
 (.seq (.ops [po_ 16 (.iface 45 (ci_ 20)),po_ 2 (.mov (.c (.slice none 0 0))),mv_ 3 16] [2,3])
  (.ret))
 WI)))
 Ws
def WP:Af := .seq (.ops [po_ 8 (.fieldA 0 0 (.t 1)),po_ 9 (.load false 1 (.t 8)),so_ 10 (.call 57 [.t 9]),mv_ 7 10,po_ 11 (.ext 0 (.t 7)),po_ 12 (.ext 1 (.t 7)),mv_ 4 11,mv_ 5 12] [1,4,5])
 Wi
def AcE:Af := .seq (.ops [so_ 1 (.box (.t 0)),po_ 2 (.mov (.c (.slice none 0 0))),po_ 3 (.mov (.c .nilIface))] [1])
 WP
def AbZ:List VR:=[.tmp 2,.tmp 3]
theorem Aj6:Tryz.f33.body.bind (trC Tryz.prog Tryz.f33.ntmps)=some (er AcE):=by kernel_rfl
theorem AkS:trR Tryz.prog Tryz.f33.results.toList=some AbZ:=by kernel_rfl
def Uu:=Aa WI.eq_1
def AdC:=Aa WU.eq_1
def Adz:=Aa Ws.eq_1
def MI:=Aa Wi.eq_1
def AdK:=Aa WP.eq_1
def Ah4:=Aa AcE.eq_1
theorem RY {K:TV→Prop} {e:Env} {H:List Ob}:res AbZ e H K=res [.tmp 2,.tmp 3] e H K:=Ad rfl
def Ajo:=D7 38 Tryz.func33 Aj6 AkS rfl
def Aen:Af := .seq (.ops [po_ 7 (.load true 2 (.t 1)),so_ 8 (.call 33 [.t 7]),mv_ 6 8,po_ 9 (.ext 0 (.t 6)),po_ 10 (.ext 1 (.t 6)),mv_ 4 9,mv_ 5 10] [2,4,5])
 (.seq (.seq (.ops [mv_ 11 5,po_ 12 (.eqN 1 (.t 11) (.c .nilIface) true)] [2,4,5,12])
 (.cond (.t 12)
 (.seq (.ops [po_ 13 (.buildA 20 1 [.val (.int .u8 ((0:Nat):Int)),.val (.int .u8 ((0:Nat):Int)),.val (.int .u8 ((0:Nat):Int)),.val (.int .u8 ((0:Nat):Int)),.val (.int .u8 ((0:Nat):Int)),.val (.int .u8 ((0:Nat):Int)),.val (.int .u8 ((0:Nat):Int)),.val (.int .u8 ((0:Nat):Int)),.val (.int .u8 ((0:Nat):Int)),.val (.int .u8 ((0:Nat):Int)),.val (.int .u8 ((0:Nat):Int)),.val (.int .u8 ((0:Nat):Int)),.val (.int .u8 ((0:Nat):Int)),.val (.int .u8 ((0:Nat):Int)),.val (.int .u8 ((0:Nat):Int)),.val (.int .u8 ((0:Nat):Int)),.val (.int .u8 ((0:Nat):Int)),.val (.int .u8 ((0:Nat):Int)),.val (.int .u8 ((0:Nat):Int)),.val (.int .u8 ((0:Nat):Int))] []),mv_ 14 5,⟨none,.s (.store 20 (.t 2) (.t 13)),none⟩,mv_ 3 14] [2,3])
  (.ret))
 (.skip)))
 (.seq (.ops [mv_ 15 4,so_ 16 (.call 34 [.t 15]),⟨none,.s (.store 20 (.t 2) (.t 16)),none⟩,po_ 3 (.mov (.c .nilIface))] [2,3])
 (.ret)))
def Aki:Af := .seq (.ops [so_ 1 (.box (.t 0)),so_ 2 (.alloc (.arr 20 1 [.val (.int .u8 ((0:Nat):Int)),.val (.int .u8 ((0:Nat):Int)),.val (.int .u8 ((0:Nat):Int)),.val (.int .u8 ((0:Nat):Int)),.val (.int .u8 ((0:Nat):Int)),.val (.int .u8 ((0:Nat):Int)),.val (.int .u8 ((0:Nat):Int)),.val (.int .u8 ((0:Nat):Int)),.val (.int .u8 ((0:Nat):Int)),.val (.int .u8 ((0:Nat):Int)),.val (.int .u8 ((0:Nat):Int)),.val (.int .u8 ((0:Nat):Int)),.val (.int .u8 ((0:Nat):Int)),.val (.int .u8 ((0:Nat):Int)),.val (.int .u8 ((0:Nat):Int)),.val (.int .u8 ((0:Nat):Int)),.val (.int .u8 ((0:Nat):Int)),.val (.int .u8 ((0:Nat):Int)),.val (.int .u8 ((0:Nat):Int)),.val (.int .u8 ((0:Nat):Int))])),po_ 3 (.mov (.c .nilIface))] [1,2])
 Aen
def AjS:List VR:=[.cell 2 true 20,.tmp 3]
theorem Ao1:Tryz.f17.body.bind (trC Tryz.prog Tryz.f17.ntmps)=some (er Aki):=by kernel_rfl
theorem ApB:trR Tryz.prog Tryz.f17.results.toList=some AjS:=by kernel_rfl
def Ajj:=Aa Aen.eq_1
def Ana:=Aa Aki.eq_1
theorem Agc {K:TV→Prop} {e:Env} {H:List Ob}:res AjS e H K=res [.cell 2 true 20,.tmp 3] e H K:=Ad rfl
def Aom:=D7 17 Tryz.func17 Ao1 ApB rfl
def Ur:Af := .seq (.seq (.ops [mv_ 4 0,po_ 5 (.bin 25 .lss (.t 4) (ci_ 1)),mv_ 6 5,⟨some 7,.p (.mov (.t 0)),some ⟨6,false⟩⟩,⟨some 8,.p (.bin 25 .gtr (.t 7) (ci_ 4)),some ⟨6,false⟩⟩,po_ 9 (.pick (.t 6) (.c (.bool true)) (.t 8))] [0,9])
 (.cond (.t 9)
 (.seq (.ops [po_ 2 (.mov (.c (.string (str [])))),po_ 3 (.mov (.c (.bool false)))] [2,3])
  (.ret))
 (.skip)))
 (.seq (.ops [mv_ 10 0,po_ 11 (.idxAA 5 1 (.g 1) (.t 10)),po_ 12 (.load false 1 (.t 11)),mv_ 2 12,po_ 3 (.mov (.c (.bool true)))] [2,3])
 (.ret))
def Yf:Af := .seq (.ops [po_ 2 (.mov (.c (.string (str [])))),po_ 3 (.mov (.c (.bool false)))] [0])
 Ur
def Zx:List VR:=[.tmp 2,.tmp 3]
theorem AhM:Tryz.f57.body.bind (trC Tryz.prog Tryz.f57.ntmps)=some (er Yf):=by kernel_rfl
theorem Aiv:trR Tryz.prog Tryz.f57.results.toList=some Zx:=by kernel_rfl
def AbC:=Aa Ur.eq_1
def Afz:=Aa Yf.eq_1
theorem AfU {K:TV→Prop} {e:Env} {H:List Ob}:res Zx e H K=res [.tmp 2,.tmp 3] e H K:=Ad rfl
def RN:=(aI_ (aI_ @AbC @Afz) @AfU)
def AgF:=D7 13 Tryz.func57 AhM Aiv rfl
def Aa1:Af := .seq (.ops [mv_ 21 5,po_ 22 (.fieldA 1 1 (.t 1)),po_ 23 (.load false 1 (.t 22)),po_ 24 (.lenV (.t 23)),so_ 25 (.call 36 [.t 24]),so_ 26 (.appS 5 (.t 21) (.t 25)),mv_ 5 26] [1,5])
 (.seq (.ops [mv_ 27 5,⟨some 28,.s (.bslice 1 1 (.val (.int .u8 ((0:Nat):Int))) [⟨0,.c (.int .u8 ((0:Nat):Int))⟩]),none⟩,so_ 29 (.app 1 1 5 (.t 27) (.t 28)),mv_ 5 29] [1,5])
 (.seq (.ops [mv_ 30 5,po_ 31 (.fieldA 1 1 (.t 1)),po_ 32 (.load false 1 (.t 31)),so_ 33 (.app 1 1 5 (.t 30) (.t 32)),mv_ 2 33,po_ 3 (.mov (ci_ 0))] [2,3])
 (.ret)))
def AaS:Af := .seq (.ops [mv_ 18 5,⟨some 19,.s (.bslice 1 1 (.val (.int .u8 ((0:Nat):Int))) [⟨0,.c (.int .u8 ((32:Nat):Int))⟩]),none⟩,so_ 20 (.app 1 1 5 (.t 18) (.t 19)),mv_ 5 20] [1,5])
 Aa1
def Abh:Af := .seq (.ops [mv_ 15 5,mv_ 16 4,so_ 17 (.appS 5 (.t 15) (.t 16)),mv_ 5 17] [1,5])
 AaS
def Abd:Af := .seq (.ops [po_ 5 (.mov (.c (.slice none 0 0)))] [1,4,5])
 Abh
def AaU:Af := .seq (.seq (.ops [po_ 11 (.fieldA 1 1 (.t 1)),po_ 12 (.load false 1 (.t 11)),po_ 13 (.lenV (.t 12)),po_ 14 (.bin 3 .gtr (.t 13) (ci_ 100000))] [1,4,14])
 (.cond (.t 14)
 (.seq (.ops [po_ 2 (.mov (.c (.slice none 0 0))),po_ 3 (.mov (ci_ 11))] [2,3])
  (.ret))
 (.skip)))
 Abd
def Aa7:Af := .seq (.seq (.ops [mv_ 9 4,po_ 10 (.bin 9 .eql (.t 9) (.c (.string (str []))))] [1,4,10])
 (.cond (.t 10)
 (.seq (.ops [po_ 2 (.mov (.c (.slice none 0 0))),po_ 3 (.mov (ci_ 20))] [2,3])
  (.ret))
 (.skip)))
 AaU
def Aa3:Af := .seq (.ops [po_ 6 (.fieldA 0 0 (.t 1)),po_ 7 (.load false 1 (.t 6)),so_ 8 (.call 35 [.t 7]),mv_ 4 8] [1,4])
 Aa7
def Agr:Af := .seq (.ops [so_ 1 (.box (.t 0)),po_ 2 (.mov (.c (.slice none 0 0))),po_ 3 (.mov (ci_ 0))] [1])
 Aa3
def Ahu:List VR:=[.tmp 2,.tmp 3]
theorem Am6:Tryz.f19.body.bind (trC Tryz.prog Tryz.f19.ntmps)=some (er Agr):=by kernel_rfl
theorem Ame:trR Tryz.prog Tryz.f19.results.toList=some Ahu:=by kernel_rfl
def Ags:=Aa Aa1.eq_1
def AgO:=Aa AaS.eq_1
def Ahc:=Aa Abh.eq_1
def Af2:=Aa Abd.eq_1
def Wu:=Aa AaU.eq_1
def PK:=Aa Aa7.eq_1
def Aho:=Aa Aa3.eq_1
def AkG:=Aa Agr.eq_1
theorem Vh {K:TV→Prop} {e:Env} {H:List Ob}:res Ahu e H K=res [.tmp 2,.tmp 3] e H K:=Ad rfl
def Ala:=D7 34 Tryz.func19 Am6 Ame rfl
def Aiz:Af := .seq (.ops [po_ 7 (.load true 2 (.t 1)),so_ 8 (.call 19 [.t 7]),mv_ 6 8,po_ 9 (.ext 0 (.t 6)),po_ 10 (.ext 1 (.t 6)),mv_ 4 9,mv_ 5 10] [2,4,5])
 (.seq (.seq (.ops [mv_ 11 5,po_ 12 (.bin 3 .neq (.t 11) (ci_ 0))] [2,4,5,12])
 (.cond (.t 12)
 (.seq (.ops [po_ 13 (.buildA 20 1 [.val (.int .u8 ((0:Nat):Int)),.val (.int .u8 ((0:Nat):Int)),.val (.int .u8 ((0:Nat):Int)),.val (.int .u8 ((0:Nat):Int)),.val (.int .u8 ((0:Nat):Int)),.val (.int .u8 ((0:Nat):Int)),.val (.int .u8 ((0:Nat):Int)),.val (.int .u8 ((0:Nat):Int)),.val (.int .u8 ((0:Nat):Int)),.val (.int .u8 ((0:Nat):Int)),.val (.int .u8 ((0:Nat):Int)),.val (.int .u8 ((0:Nat):Int)),.val (.int .u8 ((0:Nat):Int)),.val (.int .u8 ((0:Nat):Int)),.val (.int .u8 ((0:Nat):Int)),.val (.int .u8 ((0:Nat):Int)),.val (.int .u8 ((0:Nat):Int)),.val (.int .u8 ((0:Nat):Int)),.val (.int .u8 ((0:Nat):Int)),.val (.int .u8 ((0:Nat):Int))] []),mv_ 14 5,⟨none,.s (.store 20 (.t 2) (.t 13)),none⟩,mv_ 3 14] [2,3])
  (.ret))
 (.skip)))
 (.seq (.ops [mv_ 15 4,so_ 16 (.call 20 [.t 15]),⟨none,.s (.store 20 (.t 2) (.t 16)),none⟩,po_ 3 (.mov (ci_ 0))] [2,3])
 (.ret)))
def Aou:Af := .seq (.ops [so_ 1 (.box (.t 0)),so_ 2 (.alloc (.arr 20 1 [.val (.int .u8 ((0:Nat):Int)),.val (.int .u8 ((0:Nat):Int)),.val (.int .u8 ((0:Nat):Int)),.val (.int .u8 ((0:Nat):Int)),.val (.int .u8 ((0:Nat):Int)),.val (.int .u8 ((0:Nat):Int)),.val (.int .u8 ((0:Nat):Int)),.val (.int .u8 ((0:Nat):Int)),.val (.int .u8 ((0:Nat):Int)),.val (.int .u8 ((0:Nat):Int)),.val (.int .u8 ((0:Nat):Int)),.val (.int .u8 ((0:Nat):Int)),.val (.int .u8 ((0:Nat):Int)),.val (.int .u8 ((0:Nat):Int)),.val (.int .u8 ((0:Nat):Int)),.val (.int .u8 ((0:Nat):Int)),.val (.int .u8 ((0:Nat):Int)),.val (.int .u8 ((0:Nat):Int)),.val (.int .u8 ((0:Nat):Int)),.val (.int .u8 ((0:Nat):Int))])),po_ 3 (.mov (ci_ 0))] [1,2])
 Aiz
def AnX:List VR:=[.cell 2 true 20,.tmp 3]
theorem As2:Tryz.f7.body.bind (trC Tryz.prog Tryz.f7.ntmps)=some (er Aou):=by kernel_rfl
theorem A2X:trR Tryz.prog Tryz.f7.results.toList=some AnX:=by kernel_rfl
def Aln:=Aa Aiz.eq_1
def Aqf:=Aa Aou.eq_1
theorem AkI {K:TV→Prop} {e:Env} {H:List Ob}:res AnX e H K=res [.cell 2 true 20,.tmp 3] e H K:=Ad rfl
def Asd:=D7 17 Tryz.func7 As2 A2X rfl
def Aeo:Af := .seq (.ops [po_ 7 (.bin 3 .eql (.t 3) (ci_ 2)),mv_ 6 7] [3,6])
 (.cond (.t 6)
 (.seq (.ops [po_ 2 (.mov (.c (.string (str [116,114,101,101]))))] [2])
  (.ret))
 (.seq (.ops [po_ 9 (.bin 3 .eql (.t 3) (ci_ 3)),mv_ 8 9] [3,8])
  (.cond (.t 8)
  (.seq (.ops [po_ 2 (.mov (.c (.string (str [98,108,111,98]))))] [2])
   (.ret))
  (.seq (.ops [po_ 11 (.bin 3 .eql (.t 3) (ci_ 4)),mv_ 10 11] [10])
   (.cond (.t 10)
   (.seq (.ops [po_ 2 (.mov (.c (.string (str [116,97,103]))))] [2])
    (.ret))
   (.skip))))))
def Ad4:Af := .seq (.seq (.ops [mv_ 3 0] [3])
 (.block 0 (.seq (.ops [po_ 5 (.bin 3 .eql (.t 3) (ci_ 1)),mv_ 4 5] [3,4])
 (.cond (.t 4)
 (.seq (.ops [po_ 2 (.mov (.c (.string (str [99,111,109,109,105,116]))))] [2])
  (.ret))
 Aeo))))
 (.seq (.ops [po_ 2 (.mov (.c (.string (str []))))] [2])
 (.ret))
def AkJ:Af := .seq (.ops [po_ 2 (.mov (.c (.string (str []))))] [0])
 Ad4
def AkM:List VR:=[.tmp 2]
theorem ApK:Tryz.f35.body.bind (trC Tryz.prog Tryz.f35.ntmps)=some (er AkJ):=by kernel_rfl
theorem ApT:trR Tryz.prog Tryz.f35.results.toList=some AkM:=by kernel_rfl
def Ai7:=Aa Aeo.eq_1
def AjA:=Aa Ad4.eq_1
def Am5:=Aa AkJ.eq_1
theorem Aml {K:TV→Prop} {e:Env} {H:List Ob}:res AkM e H K=res [.tmp 2] e H K:=Ad rfl
def Vd:=(aI_ (aI_ @Ai7 @AjA) (aI_ @Am5 @Aml))
def An5:=D7 12 Tryz.func35 ApK ApT rfl
def Ad6:Af := .seq (.draw 5 [mv_ 13 0,mv_ 14 7,po_ 15 (.slV 1 (.t 13) none (some (.t 14))),mv_ 16 0,mv_ 17 7,mv_ 18 1,po_ 19 (.lenV (.t 18)),po_ 20 (.bin 3 .add (.t 17) (.t 19)),po_ 21 (.slV 1 (.t 16) (some (.t 20)) none),mv_ 4 15,mv_ 5 21,po_ 6 (.mov (.c (.bool true)))] [4,5,6])
 (.ret)
def Aeu:Af := .seq (.ops [mv_ 11 7,po_ 12 (.bin 3 .geq (.t 11) (ci_ 0))] [0,1,7,12])
 (.cond (.t 12)
 Ad6
 (.skip))
def Ad0:Af := .seq (.seq (.ops [mv_ 8 0,mv_ 9 1,so_ 10 (.call 64 [.t 8,.t 9]),mv_ 7 10] [0,1,7])
 Aeu)
 (.seq (.ops [mv_ 22 0,mv_ 4 22,po_ 5 (.mov (.c (.slice none 0 0))),po_ 6 (.mov (.c (.bool false)))] [4,5,6])
 (.ret))
def Aj7:Af := .seq (.ops [po_ 4 (.mov (.c (.slice none 0 0))),po_ 5 (.mov (.c (.slice none 0 0))),po_ 6 (.mov (.c (.bool false)))] [0,1])
 Ad0
def AjU:List VR:=[.tmp 4,.tmp 5,.tmp 6]
theorem ApC:Tryz.f38.body.bind (trC Tryz.prog Tryz.f38.ntmps)=some (er Aj7):=by kernel_rfl
theorem ApF:trR Tryz.prog Tryz.f38.results.toList=some AjU:=by kernel_rfl
def Ajz:=Aa Ad6.eq_1
def Ajw:=Aa Aeu.eq_1
def Ajd:=Aa Ad0.eq_1
def AmY:=Aa Aj7.eq_1
theorem Am2 {K:TV→Prop} {e:Env} {H:List Ob}:res AjU e H K=res [.tmp 4,.tmp 5,.tmp 6] e H K:=Ad rfl
def AeM:=(aI_ (aI_ (aI_ @Ajz @Ajw) (aI_ @Ajd @AmY)) @Am2)
def Aov:=D7 23 Tryz.func38 ApC ApF rfl
def Aa9:Af := .seq (.ops [mv_ 76 0,mv_ 77 8,po_ 78 (.bin 3 .add (.t 77) (ci_ 1)),mv_ 79 9,po_ 80 (.slV 1 (.t 76) (some (.t 78)) (some (.t 79))),mv_ 81 6,so_ 82 (.call 88 [.t 80,.t 81]),mv_ 11 82] [0,1,5,6,7,8,9,10,11,12])
 (.seq (.seq (.ops [mv_ 83 11,po_ 84 (.bin 3 .lss (.t 83) (ci_ 0))] [0,1,5,6,7,8,9,10,11,12,84])
 (.cond (.t 84)
 (.seq (.ops [po_ 4 (.mov (.c (.int .i64 (-1))))] [4])
  (.ret))
 (.skip)))
 (.ops [mv_ 85 8,mv_ 86 11,po_ 87 (.bin 3 .add (.t 86) (ci_ 1)),po_ 88 (.bin 3 .add (.t 85) (.t 87)),mv_ 8 88] [0,1,5,6,7,8,9,10,12]))
def AaH:Af := .cond (.t 75)
 Aa9
 (.skip)
def AaX:Af := .seq (.dead)
 (.seq (.seq (.ops [mv_ 120 12,po_ 121 (.bin 3 .geq (.t 120) (ci_ 0))] [8,12,121])
 (.cond (.t 121)
 (.seq (.ops [mv_ 122 12,mv_ 123 8,po_ 124 (.bin 3 .add (.t 122) (.t 123)),mv_ 4 124] [4])
  (.ret))
 (.skip)))
 (.seq (.ops [po_ 4 (.mov (.c (.int .i64 (-1))))] [4])
 (.ret)))
def AaV:Af := .seq (.ops [mv_ 109 8,po_ 110 (.bin 3 .add (.t 109) (ci_ 1)),mv_ 8 110] [0,1,5,6,7,8,9,10,12])
 (.seq (.ops [mv_ 111 10,mv_ 112 8,so_ 113 (.call 91 [.t 112]),po_ 114 (.bin 3 .gtr (.t 111) (.t 113))] [0,1,5,6,7,8,9,10,12,114])
 (.cond (.t 114)
 AaX
 (.skip)))
def Abb:Af := .seq (.ops [mv_ 107 10,po_ 108 (.bin 3 .add (.t 107) (ci_ 1)),mv_ 10 108] [0,1,5,6,7,8,9,10,12])
 AaV
def Abe:Af := .seq (.seq (.ops [mv_ 89 0,mv_ 90 8,po_ 91 (.bin 3 .add (.t 90) (ci_ 1)),po_ 92 (.idxA 1 (.t 89) (.t 91)),po_ 93 (.load false 1 (.t 92)),mv_ 94 7,po_ 95 (.bin 5 .eql (.t 93) (.t 94)),mv_ 96 95,⟨some 97,.p (.mov (.t 0)),some ⟨96,true⟩⟩,⟨some 98,.p (.mov (.t 8)),some ⟨96,true⟩⟩,⟨some 99,.p (.mov (.t 8)),some ⟨96,true⟩⟩,⟨some 100,.p (.mov (.t 5)),some ⟨96,true⟩⟩,⟨some 101,.p (.bin 3 .add (.t 99) (.t 100)),some ⟨96,true⟩⟩,⟨some 102,.p (.slV 1 (.t 97) (some (.t 98)) (some (.t 101))),some ⟨96,true⟩⟩,⟨some 103,.p (.mov (.t 1)),some ⟨96,true⟩⟩,⟨some 104,.s (.call 89 [.t 102,.t 103]),some ⟨96,true⟩⟩,po_ 105 (.pick (.t 96) (.t 104) (.c (.bool false)))] [0,1,5,6,7,8,9,10,12,105])
 (.cond (.t 105)
 (.seq (.ops [mv_ 106 8,mv_ 4 106] [4])
  (.ret))
 (.skip)))
 Abb
def AaJ:Af := .block 2 (.seq (.seq (.ops [mv_ 70 0,mv_ 71 8,po_ 72 (.idxA 1 (.t 70) (.t 71)),po_ 73 (.load false 1 (.t 72)),mv_ 74 6,po_ 75 (.bin 5 .neq (.t 73) (.t 74))] [0,1,5,6,7,8,9,10,12,75])
 AaH)
 Abe)
def Aa0:Af := .seq (.seq (.ops [mv_ 67 8,mv_ 68 9,po_ 69 (.bin 3 .lss (.t 67) (.t 68))] [0,1,5,6,7,8,9,10,12,69])
 (.cond (.t 69)
 (.skip)
 (.exit 1)))
 AaJ
def AaK:Af := .seq (.ops [po_ 4 (.mov (.c (.int .i64 (-1))))] [4])
 (.ret)
def Zq:Af := .seq (.block 1 (.loop [0,1,5,6,7,8,9,10,12] Aa0))
 AaK
def Zm:Af := .seq (.ops [po_ 10 (.mov (ci_ 0))] [0,1,5,6,7,8,9,10,12])
 Zq
def Zl:Af := .seq (.ops [mv_ 62 0,po_ 63 (.lenV (.t 62)),mv_ 64 5,po_ 65 (.bin 3 .sub (.t 63) (.t 64)),po_ 66 (.bin 3 .add (.t 65) (ci_ 1)),mv_ 9 66] [0,1,5,6,7,8,9,12])
 Zm
def Yt:Af := .seq (.ops [po_ 8 (.mov (ci_ 0))] [0,1,5,6,7,8,12])
 Zl
def ZN:Af := .seq (.ops [mv_ 59 1,po_ 60 (.idxA 1 (.t 59) (ci_ 1)),po_ 61 (.load false 1 (.t 60)),mv_ 7 61] [0,1,5,6,7,12])
 Yt
def Zn:Af := .seq (.ops [mv_ 56 1,po_ 57 (.idxA 1 (.t 56) (ci_ 0)),po_ 58 (.load false 1 (.t 57)),mv_ 6 58] [0,1,5,6,12])
 ZN
def Y3:Af := .seq (.seq (.ops [mv_ 50 0,po_ 51 (.lenV (.t 50)),po_ 52 (.bin 3 .leq (.t 51) (ci_ 64))] [0,1,4,5,12,52])
 (.cond (.t 52)
 (.seq (.dead)
  (.ret))
 (.skip)))
 Zn
def Zf:Af := .cond (.t 46)
 Y3
 (.skip)
def YU:Af := .seq (.ops [mv_ 47 5,po_ 48 (.load false 1 (.g 2)),po_ 49 (.bin 3 .leq (.t 47) (.t 48)),mv_ 46 49] [0,1,4,5,12,46])
 Zf
def Yn:Af := .cond (.t 41)
 (.seq (.ops [po_ 4 (.mov (.c (.int .i64 (-1))))] [4])
  (.ret))
 YU
def YW:Af := .seq (.ops [mv_ 42 5,mv_ 43 0,po_ 44 (.lenV (.t 43)),po_ 45 (.bin 3 .gtr (.t 42) (.t 44)),mv_ 41 45] [0,1,4,5,12,41])
 Yn
def ZR:Af := .cond (.t 33)
 (.seq (.seq (.ops [mv_ 38 1,mv_ 39 0,so_ 40 (.call 89 [.t 38,.t 39])] [40])
  (.cond (.t 40)
  (.seq (.ops [po_ 4 (.mov (ci_ 0))] [4])
   (.ret))
  (.skip)))
  (.seq (.ops [po_ 4 (.mov (.c (.int .i64 (-1))))] [4])
  (.ret)))
 YW
def Zp:Af := .seq (.ops [mv_ 34 5,mv_ 35 0,po_ 36 (.lenV (.t 35)),po_ 37 (.bin 3 .eql (.t 34) (.t 36)),mv_ 33 37] [0,1,4,5,12,33])
 ZR
def YD:Af := .cond (.t 25)
 (.seq (.ops [mv_ 28 0,mv_ 29 1,po_ 30 (.idxA 1 (.t 29) (ci_ 0)),po_ 31 (.load false 1 (.t 30)),so_ 32 (.call 88 [.t 28,.t 31]),mv_ 4 32] [4])
  (.ret))
 Zp
def Yx:Af := .seq (.ops [mv_ 26 5,po_ 27 (.bin 3 .eql (.t 26) (ci_ 1)),mv_ 25 27] [0,1,4,5,12,25])
 YD
def Yb:Af := .cond (.t 22)
 (.seq (.ops [po_ 4 (.mov (ci_ 0))] [4])
  (.ret))
 Yx
def Y6:Af := .seq (.ops [mv_ 145 0,mv_ 146 15,po_ 147 (.bin 3 .add (.t 146) (ci_ 1)),mv_ 148 17,po_ 149 (.slV 1 (.t 145) (some (.t 147)) (some (.t 148))),mv_ 150 13,so_ 151 (.call 88 [.t 149,.t 150]),mv_ 18 151] [0,1,5,13,14,15,16,17,18])
 (.seq (.seq (.ops [mv_ 152 18,po_ 153 (.bin 3 .lss (.t 152) (ci_ 0))] [0,1,5,13,14,15,16,17,18,153])
 (.cond (.t 153)
 (.exit 3)
 (.skip)))
 (.ops [mv_ 154 15,mv_ 155 18,po_ 156 (.bin 3 .add (.t 155) (ci_ 1)),po_ 157 (.bin 3 .add (.t 154) (.t 156)),mv_ 15 157] [0,1,5,13,14,15,16,17]))
def Ye:Af := .cond (.t 144)
 Y6
 (.skip)
def X8:Af := .seq (.ops [mv_ 190 0,mv_ 191 15,po_ 192 (.slV 1 (.t 190) (some (.t 191)) none),mv_ 193 1,so_ 194 (.call 92 [.t 192,.t 193]),mv_ 19 194] [15,19])
 (.seq (.seq (.ops [mv_ 195 19,po_ 196 (.bin 3 .lss (.t 195) (ci_ 0))] [15,19,196])
 (.cond (.t 196)
 (.seq (.ops [po_ 4 (.mov (.c (.int .i64 (-1))))] [4])
  (.ret))
 (.skip)))
 (.seq (.ops [mv_ 197 15,mv_ 198 19,po_ 199 (.bin 3 .add (.t 197) (.t 198)),mv_ 4 199] [4])
 (.ret)))
def Zi:Af := .cond (.t 189)
 X8
 (.skip)
def Zb:Af := .seq (.ops [mv_ 180 16,mv_ 181 15,po_ 182 (.bin 3 .shr (.t 181) (.c (.int .u64 ((4:Nat):Int)))),po_ 183 (.bin 3 .add (ci_ 4) (.t 182)),po_ 184 (.bin 3 .geq (.t 180) (.t 183)),mv_ 185 184,⟨some 186,.p (.mov (.t 15)),some ⟨185,true⟩⟩,⟨some 187,.p (.mov (.t 17)),some ⟨185,true⟩⟩,⟨some 188,.p (.bin 3 .lss (.t 186) (.t 187)),some ⟨185,true⟩⟩,po_ 189 (.pick (.t 185) (.t 188) (.c (.bool false)))] [0,1,5,13,14,15,16,17,189])
 Zi
def Zu:Af := .seq (.ops [mv_ 178 16,po_ 179 (.bin 3 .add (.t 178) (ci_ 1)),mv_ 16 179] [0,1,5,13,14,15,16,17])
 Zb
def Yu:Af := .seq (.ops [mv_ 176 15,po_ 177 (.bin 3 .add (.t 176) (ci_ 1)),mv_ 15 177] [0,1,5,13,14,15,16,17])
 Zu
def Zt:Af := .seq (.seq (.ops [mv_ 158 0,mv_ 159 15,po_ 160 (.bin 3 .add (.t 159) (ci_ 1)),po_ 161 (.idxA 1 (.t 158) (.t 160)),po_ 162 (.load false 1 (.t 161)),mv_ 163 14,po_ 164 (.bin 5 .eql (.t 162) (.t 163)),mv_ 165 164,⟨some 166,.p (.mov (.t 0)),some ⟨165,true⟩⟩,⟨some 167,.p (.mov (.t 15)),some ⟨165,true⟩⟩,⟨some 168,.p (.mov (.t 15)),some ⟨165,true⟩⟩,⟨some 169,.p (.mov (.t 5)),some ⟨165,true⟩⟩,⟨some 170,.p (.bin 3 .add (.t 168) (.t 169)),some ⟨165,true⟩⟩,⟨some 171,.p (.slV 1 (.t 166) (some (.t 167)) (some (.t 170))),some ⟨165,true⟩⟩,⟨some 172,.p (.mov (.t 1)),some ⟨165,true⟩⟩,⟨some 173,.s (.call 89 [.t 171,.t 172]),some ⟨165,true⟩⟩,po_ 174 (.pick (.t 165) (.t 173) (.c (.bool false)))] [0,1,5,13,14,15,16,17,174])
 (.cond (.t 174)
 (.seq (.ops [mv_ 175 15,mv_ 4 175] [4])
  (.ret))
 (.skip)))
 Yu
def Yv:Af := .block 4 (.seq (.seq (.ops [mv_ 139 0,mv_ 140 15,po_ 141 (.idxA 1 (.t 139) (.t 140)),po_ 142 (.load false 1 (.t 141)),mv_ 143 13,po_ 144 (.bin 5 .neq (.t 142) (.t 143))] [0,1,5,13,14,15,16,17,144])
 Ye)
 Zt)
def Y9:Af := .seq (.seq (.ops [mv_ 136 15,mv_ 137 17,po_ 138 (.bin 3 .lss (.t 136) (.t 137))] [0,1,5,13,14,15,16,17,138])
 (.cond (.t 138)
 (.skip)
 (.exit 3)))
 Yv
def ZM:Af := .seq (.ops [po_ 4 (.mov (.c (.int .i64 (-1))))] [4])
 (.ret)
def ZH:Af := .seq (.block 3 (.loop [0,1,5,13,14,15,16,17] Y9))
 ZM
def Zc:Af := .seq (.ops [mv_ 131 0,po_ 132 (.lenV (.t 131)),mv_ 133 5,po_ 134 (.bin 3 .sub (.t 132) (.t 133)),po_ 135 (.bin 3 .add (.t 134) (ci_ 1)),mv_ 17 135] [0,1,5,13,14,15,16,17])
 ZH
def YP:Af := .seq (.ops [po_ 16 (.mov (ci_ 0))] [0,1,5,13,14,15,16])
 Zc
def Ya:Af := .seq (.ops [po_ 15 (.mov (ci_ 0))] [0,1,5,13,14,15])
 YP
def Y0:Af := .seq (.ops [mv_ 128 1,po_ 129 (.idxA 1 (.t 128) (ci_ 1)),po_ 130 (.load false 1 (.t 129)),mv_ 14 130] [0,1,5,13,14])
 Ya
def YX:Af := .seq (.ops [mv_ 125 1,po_ 126 (.idxA 1 (.t 125) (ci_ 0)),po_ 127 (.load false 1 (.t 126)),mv_ 13 127] [0,1,5,13])
 Y0
def Zy:Af := .seq (.block 0 (.seq (.ops [mv_ 23 5,po_ 24 (.bin 3 .eql (.t 23) (ci_ 0)),mv_ 22 24] [0,1,4,5,12,22])
 Yb))
 YX
def ZL:Af := .seq (.ops [mv_ 20 1,po_ 21 (.lenV (.t 20)),mv_ 5 21] [0,1,4,5,12])
 Zy
def Agq:Af := .seq (.ops [po_ 4 (.mov (ci_ 0))] [0,1,4,12])
 ZL
def AgI:List VR:=[.tmp 4]
theorem Amz:Tryz.f64.body.bind (trC Tryz.prog Tryz.f64.ntmps)=some (er Agq):=by kernel_rfl
theorem Ann:trR Tryz.prog Tryz.f64.results.toList=some AgI:=by kernel_rfl
def Af4:=Aa Aa9.eq_1
def AgH:=Aa AaH.eq_1
def Agj:=Aa AaX.eq_1
def AgV:=Aa AaV.eq_1
def Agb:=Aa Abb.eq_1
def Ag9:=Aa Abe.eq_1
def Agm:=Aa AaJ.eq_1
def Af9:=Aa Aa0.eq_1
def AgN:=Aa AaK.eq_1
def AeY:=Aa Zq.eq_1
def AfM:=Aa Zm.eq_1
def Afr:=Aa Zl.eq_1
def AeK:=Aa Yt.eq_1
def Afm:=Aa ZN.eq_1
def AfO:=Aa Zn.eq_1
def AfC:=Aa Y3.eq_1
def AeX:=Aa Zf.eq_1
def AfN:=Aa YU.eq_1
def Afq:=Aa Yn.eq_1
def AeU:=Aa YW.eq_1
def Afk:=Aa ZR.eq_1
def AfX:=Aa Zp.eq_1
def Afn:=Aa YD.eq_1
def Afj:=Aa Yx.eq_1
def AfL:=Aa Yb.eq_1
def AfR:=Aa Y6.eq_1
def AeZ:=Aa Ye.eq_1
def Aez:=Aa X8.eq_1
def AfJ:=Aa Zi.eq_1
def AfP:=Aa Zb.eq_1
def AfD:=Aa Zu.eq_1
def AfG:=Aa Yu.eq_1
def Afc:=Aa Zt.eq_1
def AeL:=Aa Yv.eq_1
def Ae9:=Aa Y9.eq_1
def Ae6:=Aa ZM.eq_1
def Afy:=Aa ZH.eq_1
def AeP:=Aa Zc.eq_1
def Ae1:=Aa YP.eq_1
def Ae4:=Aa Ya.eq_1
def Afa:=Aa Y0.eq_1
def Afh:=Aa YX.eq_1
def AfT:=Aa Zy.eq_1
def Aff:=Aa ZL.eq_1
def AkX:=Aa Agq.eq_1
theorem AjR {K:TV→Prop} {e:Env} {H:List Ob}:res AgI e H K=res [.tmp 4] e H K:=Ad rfl
def Ahw:=(aI_ (aI_ (aI_ (aI_ (aI_ (aI_ @Af4 @AgH) (aI_ @Agj @AgV)) (aI_ (aI_ @Agb @Ag9) (aI_ @Agm @Af9))) (aI_ (aI_ (aI_ @AgN @AeY) (aI_ @AfM @Afr)) (aI_ (aI_ @AeK @Afm) (aI_ @AfO @AfC)))) (aI_ (aI_ (aI_ (aI_ @AeX @AfN) (aI_ @Afq @AeU)) (aI_ (aI_ @Afk @AfX) (aI_ @Afn @Afj))) (aI_ (aI_ (aI_ @AfL @AfR) (aI_ @AeZ @Aez)) (aI_ (aI_ @AfJ @AfP) (aI_ @AfD @AfG))))) (aI_ (aI_ (aI_ (aI_ @Afc @AeL) (aI_ @Ae9 @Ae6)) (aI_ (aI_ @Afy @AeP) (aI_ @Ae1 @Ae4))) (aI_ (aI_ (aI_ @Afa @Afh) (aI_ @AfT @Aff)) (aI_ @AkX @AjR))))
def Alf:=D7 200 Tryz.func64 Amz Ann rfl
end
section
open Go.RowKit
variable [AL]
def AcH (k:Int):Option (List UInt8):=if k=1 then some [99,111,109,109,105,116] else if k=2 then some [116,114,101,101] else if k=3 then some [98,108,111,98] else if k=4 then some [116,97,103] else none
def Af0 (k:Int) (d:List UInt8):Except Nat (List UInt8):=match AcH k with
 | none => .error 20
 | some n=>if d.length≤100000 then .ok (n++32::Lib.decDigits d.length++0::d) else .error 11
theorem A2Z {k:Int} {s:List UInt8}:AcH k=some s↔(k=1∧s=[99,111,109,109,105,116])∨(k=2∧s=[116,114,101,101])∨(k=3∧s=[98,108,111,98])∨(k=4∧s=[116,97,103]):=by
 unfold AcH
 constructor
 ·intro h
  split at h
  ·cases h; exact .inl ⟨by assumption,rfl⟩
  ·split at h
   ·cases h; exact .inr (.inl ⟨by assumption,rfl⟩)
   ·split at h
    ·cases h; exact .inr (.inr (.inl ⟨by assumption,rfl⟩))
    ·split at h
     ·cases h; exact .inr (.inr (.inr ⟨by assumption,rfl⟩))
     ·cases h
 ·rintro (⟨rfl,rfl⟩ | ⟨rfl,rfl⟩ | ⟨rfl,rfl⟩ | ⟨rfl,rfl⟩)<;>rfl
theorem Aii {k:Int} {n:List UInt8} (h:AcH k=some n):1≤k∧k≤4∧n.length≤6:=by
 unfold AcH at h
 split at h
 ·cases h; simp; omega
 ·split at h
  ·cases h; simp; omega
  ·split at h
   ·cases h; simp; omega
   ·split at h
    ·cases h; simp; omega
    ·cases h
abbrev BlC (n:Int):TV := .ifc 45 (i64 n)
section
variable [AB]
theorem BfJ:BH.tv = .arr 5 1 [ts [],ts [99,111,109,109,105,116],ts [116,114,101,101],ts [98,108,111,98],ts [116,97,103]]:=by rfl
theorem A3F (k:Int) (h1 : -9223372036854775808≤k) (h2:k≤9223372036854775807):BD Tryz.prog 57 [i64 k] (fun r=>(∀ n,AcH k=some n→r = .tup [ts n,tb true])∧(AcH k=none→r = .tup [ts [],tb false])):=by
 refine Au.toPureV (AgF (by simp) ?_)
 by_cases c1:k<1
 ·have hn:AcH k=none:=by unfold AcH; rw [if_neg (by omega),if_neg (by omega),if_neg (by omega),if_neg (by omega)]
  simp -dsimp (disch:=first | assumption | omega | (simp only [Ac];try omega)) only [↓Ag,Ae,Ai,Ah,eq_self,Nat.reduceEqDiff,↓reduceIte,reduceCtorEq,↓RN]
  rw [hn]
  simp
 by_cases c4:k > 4
 ·have hn:AcH k=none:=by unfold AcH; rw [if_neg (by omega),if_neg (by omega),if_neg (by omega),if_neg (by omega)]
  simp -dsimp (disch:=first | assumption | omega | (simp only [Ac];try omega)) only [↓Ag,Ae,Ai,Ah,eq_self,Nat.reduceEqDiff,↓reduceIte,reduceCtorEq,↓RN]
  rw [hn]
  simp
 obtain ⟨j,rfl⟩:∃ j:Nat,k=(j:Int):=⟨k.toNat,by omega⟩
 have hk:=AB.k
 obtain h | h | h | h:j=1∨j=2∨j=3∨j=4:=by omega
 all_goals
  subst h
  simp -dsimp (disch:=first | assumption | omega | (simp only [Ac];try omega)) only [↓Ag,Ae,Ai,Ah,eq_self,Nat.reduceLT,Nat.reduceEqDiff,↓reduceIte,reduceCtorEq,↓RN,hk,BfJ]
  simp [AcH]
end
end
end Go.Proofs.YtnkpoloeifhflaaGreatDoor
namespace Go.Proofs.YtnkpoloeifhflaaGreatDoor.Kit
open Go.RowKit
def AA (w w':World):Prop:=Below w.heap.size w w'
theorem AA.refl (w:World):AA w w:=Below.refl _ _
theorem AA.trans {a b c:World} (h:AA a b) (k:AA b c):AA a c:=Below.trans h (Below.mono k (Below.size h))
theorem AA.drew {a b:World} (h:AA a b):AA a b.drew:=Below.drew h
theorem AA.drewN {a b:World} (h:AA a b) (n:Nat):AA a (b.drewN n):=Below.trans h ⟨rfl,rfl,rfl,Nat.le_refl _,fun _ _=>rfl⟩
theorem AA.alloc {a b:World} (h:AA a b) (o:Obj):AA a (b.alloc o):=Below.alloc h (Below.size h) o
theorem Below.drewN' {B:Nat} {a b:World} (n:Nat) (h:Below B a b):Below B a (b.drewN n):=Below.trans h ⟨rfl,rfl,rfl,Nat.le_refl _,fun _ _=>rfl⟩
theorem AA.cell {w w':World} (h:AA w w') {p:Addr} {v:Value} (hv:w.cell? p=some v):w'.cell? p=some v:=by
 rw [Below.cell h (World.block_lt_of_cell? w p hv)]; exact hv
def Bs (w:World) (a:Option Addr) (l:List UInt8):Prop :=
 ∀ j,j<l.length→∃ b off,a=some ⟨b,off,none⟩∧w.cell? ⟨b,off+j,none⟩=some (.int .u8 (l.getD j 0).toNat)
theorem Bs.keep {w w':World} {a:Option Addr} {l:List UInt8} (h:Bs w a l) (k:AA w w'):Bs w' a l:=fun j hj =>
 let ⟨b,off,e,hc⟩:=h j hj; ⟨b,off,e,k.cell hc⟩
theorem Bs.nil (w:World) (a:Option Addr):Bs w a []:=fun j hj=>absurd hj (by simp)
theorem A2Y {α:Type} (l:List α) (k:Nat) (d:α) (h:k<l.length):l.drop k=l.getD k d::l.drop (k+1):=by
 rw [List.drop_eq_getElem_cons h]; simp [List.getD,h]
theorem Bs.take {w:World} {a:Option Addr} {l:List UInt8} (h:Bs w a l) (n:Nat):Bs w a (l.take n):=fun j hj=>by
 have hj':j<l.length:=by simp at hj; omega
 have hjn:j<n:=by simp at hj; omega
 obtain ⟨b,off,e,hc⟩:=h j hj'
 exact ⟨b,off,e,by rw [hc]; simp [List.getD,hjn]⟩
theorem Bs.drop {w:World} {b off:Nat} {l:List UInt8} (h:Bs w (some ⟨b,off,none⟩) l) (n:Nat):Bs w (some ⟨b,off+n,none⟩) (l.drop n):=fun j hj=>by
 have hj':n+j<l.length:=by simp at hj; omega
 obtain ⟨b',off',e,hc⟩:=h (n+j) hj'
 simp only [Option.some.injEq,Addr.mk.injEq,and_true] at e
 obtain ⟨rfl,rfl⟩:=e
 refine ⟨b,off+n,rfl,?_⟩
 rw [Nat.add_assoc,hc]
 simp [List.getD]
def bv (l:List UInt8):List Value:=l.map fun x => .int .u8 (x.toNat:Int)
@[simp] theorem O0 (l:List UInt8):(bv l).length=l.length:=by simp [bv]
theorem A27 (l:List UInt8) (j:Nat) (h:j<l.length):(bv l)[j]?=some (.int .u8 ((l.getD j 0).toNat:Int)):=by simp [bv,List.getD,h]
theorem AjD (l:List UInt8):∀ v∈bv l,v.oneCell'=true:=by
 intro v hv; simp only [bv,List.mem_map] at hv; obtain ⟨x,_,rfl⟩:=hv; rfl
theorem Bs.src {w:World} {a:Option Addr} {l:List UInt8} (h:Bs w a l) (hp:0<(bv l).length):∃ ad,a=some ad∧∀ j v,(bv l)[j]?=some v→w.cell? (ad.add j)=some v:=by
 obtain ⟨b,off,rfl,_⟩:=h 0 (by simpa using hp)
 refine ⟨_,rfl,fun j v hv => ?_⟩
 have hj:j<l.length:=by
  rcases Nat.lt_or_ge j l.length with h1 | h1
  ·exact h1
  ·rw [List.getElem?_eq_none (by simpa using h1)] at hv; cases hv
 obtain ⟨b',off',e,hc⟩:=h j hj
 simp only [Option.some.injEq,Addr.mk.injEq,and_true] at e
 obtain ⟨rfl,rfl⟩:=e
 rw [A27 l j hj] at hv
 rw [show (⟨b,off,none⟩:Addr).add j=⟨b,off+j,none⟩ from by simp [Addr.add],hc]; exact hv
theorem A4a (x:UInt8):(x.toNat:Int)<256:=by have:=UInt8.toNat_lt x; omega
theorem Bs.at {w:World} {a:Option Addr} {l:List UInt8} (h:Bs w a l) {j:Nat} (hj:j<l.length) :
  ∃ b off x,a=some ⟨b,off,none⟩∧w.cell? ⟨b,off+j,none⟩=some (.int .u8 (x.toNat:Int))∧(x.toNat:Int)<256∧Hid (x=l.getD j 0):=by
 obtain ⟨b,off,e,hc⟩:=h j hj
 exact ⟨b,off,l.getD j 0,e,hc,A4a _,rfl⟩
theorem Bs.at' {w:World} {b off:Nat} {l:List UInt8} (h:Bs w (some ⟨b,off,none⟩) l) {j:Nat} (hj:j<l.length) :
  ∃ x,w.cell? ⟨b,off+j,none⟩=some (.int .u8 (x.toNat:Int))∧(x.toNat:Int)<256∧Hid (x=l.getD j 0):=by
 obtain ⟨b',off',e,hc⟩:=h j hj
 simp only [Option.some.injEq,Addr.mk.injEq,and_true] at e
 obtain ⟨rfl,rfl⟩:=e
 exact ⟨l.getD j 0,hc,A4a _,rfl⟩
theorem Oa {P:Program} {f:FuncId} {args:Array Value} {w:World} {n:Nat} {v:Value}
  (h:Calls P f args (w.drewN n) fun e w'=>e = .returned v∧w.drewN n=w'):Calls P f args (w.drewN n) fun e w''=>e = .returned v∧∃ m,w''=w.drewN m :=
 h.mono fun _ _ ⟨he,hm⟩=>⟨he,n,hm.symm⟩
theorem A2H {a w:World} {row:Option Nat} (h:a.grownBy w row):a.grownBy w.drew row:=⟨h.os,h.tape,h.output,h.size,h.block⟩
theorem Aor {a w:World} {g:Nat} (h:a.grownBy w (some g)) {p:Addr} (hp:p.block=g∨a.heap.size≤p.block) (u:Value):a.grownBy (w.setCell p u) (some g) :=
 ⟨h.os,h.tape,h.output,by simpa [World.setCell] using h.size,fun i hi hne=>(Below.heap_setCell w p u i (by
  rintro rfl
  rcases hp with hp | hp
  ·exact hne (by rw [hp])
  ·omega)).trans (h.block i hi hne)⟩
end Go.Proofs.YtnkpoloeifhflaaGreatDoor.Kit
namespace Go.Proofs.YtnkpoloeifhflaaGreatDoor.Kit
open Go.RowKit
def rot (x n:Nat):Nat:=(x*2 ^ n % 4294967296) ||| (x / 2 ^ (32 - n))
def sf1 (b c d:Nat):Nat:=(b &&& c) ||| ((4294967295 ^^^ b) &&& d)
def sf2 (b c d:Nat):Nat:=(b ^^^ c) ^^^ d
def sf3 (b c d:Nat):Nat:=((b &&& c) ||| (b &&& d)) ||| (c &&& d)
def sff (i b c d:Nat):Nat:=if i<20 then sf1 b c d else if i<40 then sf2 b c d else if i<60 then sf3 b c d else sf2 b c d
def skk (i:Nat):Nat:=if i<20 then 1518500249 else if i<40 then 1859775393 else if i<60 then 2400959708 else 3395469782
theorem Ac8 {a b:Nat} (ha:a<4294967296) (hb:b<4294967296):a ||| b<4294967296:=Nat.or_lt_two_pow (n:=32) ha hb
theorem Ii {a b:Nat} (ha:a<4294967296):a &&& b<4294967296:=Nat.lt_of_le_of_lt Nat.and_le_left ha
theorem C9 {a b:Nat} (ha:a<4294967296) (hb:b<4294967296):a ^^^ b<4294967296:=Nat.xor_lt_two_pow (n:=32) ha hb
theorem A3m {x:Nat} (n:Nat) (hx:x<4294967296):rot x n<4294967296 :=
 Ac8 (Nat.mod_lt _ (by omega)) (Nat.lt_of_le_of_lt (Nat.div_le_self _ _) hx)
theorem Bmq {b c d:Nat} (hb:b<4294967296):sf1 b c d<4294967296:=Ac8 (Ii hb) (Ii (C9 (by omega) hb))
theorem Bi3 {b c d:Nat} (hb:b<4294967296) (hc:c<4294967296) (hd:d<4294967296):sf2 b c d<4294967296:=C9 (C9 hb hc) hd
theorem Bou {b c d:Nat} (hb:b<4294967296) (hc:c<4294967296):sf3 b c d<4294967296:=Ac8 (Ac8 (Ii hb) (Ii hb)) (Ii hc)
theorem Bng (i:Nat) {b c d:Nat} (hb:b<4294967296) (hc:c<4294967296) (hd:d<4294967296):sff i b c d<4294967296:=by
 unfold sff; split
 ·exact Bmq hb
 ·split
  ·exact Bi3 hb hc hd
  ·split
   ·exact Bou hb hc
   ·exact Bi3 hb hc hd
def Bfi (p:List UInt8) (i:Nat):Nat:=(p.getD i 0).toNat*16777216+(p.getD (i+1) 0).toNat*65536+(p.getD (i+2) 0).toNat*256+(p.getD (i+3) 0).toNat
theorem Blv (p:List UInt8) (i:Nat):Bfi p i<4294967296:=by
 unfold Bfi
 have:=UInt8.toNat_lt (p.getD i 0); have:=UInt8.toNat_lt (p.getD (i+1) 0); have:=UInt8.toNat_lt (p.getD (i+2) 0); have:=UInt8.toNat_lt (p.getD (i+3) 0)
 omega
theorem AmJ {L:List Nat} {M:Nat} (h:∀ x∈L,x<M) (h0:0<M) (j:Nat):L.getD j 0<M:=by
 rw [List.getD_eq_getElem?_getD]
 cases e:L[j]? with
 | none=>exact h0
 | some x=>exact h x (List.mem_of_getElem? e)
def Anf (p:List UInt8) (L:List Nat) (i:Nat):Nat :=
 if i<16 then Bfi p (4*i) else rot (((L.getD (i - 3) 0 ^^^ L.getD (i - 8) 0) ^^^ L.getD (i - 14) 0) ^^^ L.getD (i - 16) 0) 1
def wl (p:List UInt8):Nat→List Nat
 | 0=>[]
 | i+1=>wl p i++[Anf p (wl p i) i]
@[simp] theorem Y4 (p:List UInt8) (i:Nat):(wl p i).length=i:=by induction i with
 | zero=>rfl
 | succ i ih=>simp [wl,ih]
theorem Bqj (p:List UInt8) (i:Nat):∀ x∈wl p i,x<4294967296:=by
 induction i with
 | zero=>intro x hx; cases hx
 | succ i ih =>
  intro x hx
  simp only [wl,List.mem_append,List.mem_singleton] at hx
  rcases hx with hx | rfl
  ·exact ih x hx
  ·have hg:∀ j,(wl p i).getD j 0<4294967296:=AmJ ih (by omega)
   unfold Anf; split
   ·exact Blv _ _
   ·exact A3m _ (C9 (C9 (C9 (hg _) (hg _)) (hg _)) (hg _))
theorem Ko (p:List UInt8) (i j:Nat):(wl p i).getD j 0<4294967296:=AmJ (Bqj p i) (by omega) j
structure V5 where
 a:Nat
 b:Nat
 c:Nat
 d:Nat
 e:Nat
def V5.ok (v:V5):Prop:=v.a<4294967296∧v.b<4294967296∧v.c<4294967296∧v.d<4294967296∧v.e<4294967296
def V5.list (v:V5):List Nat:=[v.a,v.b,v.c,v.d,v.e]
def MJ (L:List Nat):List Value:=L.map fun (n:Nat)=>Value.int .u32 (n:Int)
@[simp] theorem Va (L:List Nat):(MJ L).length=L.length:=by simp [MJ]
def AhF (n:Nat):List Value:=List.replicate n (.int .u32 0)
theorem AoF (L:List Nat) (j:Nat) (h:j<L.length):(MJ L)[j]?=some (.int .u32 ((L.getD j 0:Nat):Int)):=by simp [MJ,List.getD,h]
theorem Ap1 (p:List UInt8) (k:Nat) (hk:k<80):(MJ (wl p k)++AhF (80 - k))[k]?=some (.int .u32 0):=by
 rw [List.getElem?_append_right (by simp),Va,Y4,Nat.sub_self,AhF,List.getElem?_replicate,if_pos (by omega)]
theorem Aal (p:List UInt8) (k j:Nat) (hj:j<k):(MJ (wl p k)++AhF (80 - k))[j]?=some (.int .u32 (((wl p k).getD j 0:Nat):Int)):=by
 rw [List.getElem?_append_left (by simpa using hj),AoF _ _ (by simpa using hj)]
theorem AqD (p:List UInt8) (k x:Nat) (hk:k<80) (hx:x=Anf p (wl p k) k):(MJ (wl p k)++AhF (80 - k)).set k (.int .u32 (x:Int))=MJ (wl p (k+1))++AhF (80 - (k+1)):=by
 subst hx
 rw [List.set_append_right _ _ (by simp)]
 simp only [Va,Y4,Nat.sub_self]
 rw [show 80 - k=(80 - (k+1))+1 from by omega]
 simp [AhF,List.replicate_succ,wl,MJ]
theorem BnI (p:List UInt8) (i:Nat) (h:i<80):(MJ (wl p 80)++AhF (80 - 80))[i]?=some (.int .u32 (((wl p 80).getD i 0:Nat):Int)):=Aal p 80 i h
def UV (i:Nat) (v:V5) (x:Nat):Nat:=((((rot v.a 5+sff i v.b v.c v.d) % 4294967296+v.e) % 4294967296+skk i) % 4294967296+x) % 4294967296
def rnd (i:Nat) (v:V5) (x:Nat):V5:=⟨UV i v x,v.a,rot v.b 30,v.c,v.d⟩
theorem Al7 (i:Nat) {v:V5} (x:Nat) (h:v.ok):(rnd i v x).ok:=⟨Nat.mod_lt _ (by omega),h.1,A3m _ h.2.1,h.2.2.1,h.2.2.2.1⟩
def AoZ:Nat→V5→List Nat→V5
 | _,v,[]=>v
 | i,v,x::l=>AoZ (i+1) (rnd i v x) l
theorem BeR (l:List Nat):∀ (i:Nat) (v:V5),v.ok→(AoZ i v l).ok:=by
 induction l with
 | nil=>intro i v h; exact h
 | cons x l ih=>intro i v h; exact ih _ _ (Al7 i x h)
theorem A3q (i:Nat) (v:V5) (l:List Nat) (h:i<l.length):AoZ i v (l.drop i)=AoZ (i+1) (rnd i v (l.getD i 0)) (l.drop (i+1)):=by
 rw [A2Y l i 0 h]; rfl
def Bli (h v:V5):V5:=⟨(h.a+v.a) % 4294967296,(h.b+v.b) % 4294967296,(h.c+v.c) % 4294967296,(h.d+v.d) % 4294967296,(h.e+v.e) % 4294967296⟩
theorem Ap8 (h v:V5):(Bli h v).ok:=⟨Nat.mod_lt _ (by omega),Nat.mod_lt _ (by omega),Nat.mod_lt _ (by omega),Nat.mod_lt _ (by omega),Nat.mod_lt _ (by omega)⟩
def blk (h:V5) (p:List UInt8):V5:=Bli h (AoZ 0 h (wl p 80))
def Bir:Nat→V5→List UInt8→V5×List UInt8
 | 0,h,l=>(h,l)
 | f+1,h,l=>if l.length<64 then (h,l) else Bir f (blk h (l.take 64)) (l.drop 64)
def CY (h:V5) (l:List UInt8):V5×List UInt8:=Bir l.length h l
theorem A23:∀ (f g:Nat) (h:V5) (l:List UInt8),l.length≤f→l.length≤g→Bir f h l=Bir g h l:=by
 intro f
 induction f with
 | zero =>
  intro g h l hf _
  have:l=[]:=List.eq_nil_of_length_eq_zero (by omega)
  subst this
  cases g<;>simp [Bir]
 | succ f ih =>
  intro g h l hf hg
  cases g with
  | zero =>
   have:l=[]:=List.eq_nil_of_length_eq_zero (by omega)
   subst this; simp [Bir]
  | succ g =>
   simp only [Bir]
   split
   ·rfl
   ·exact ih g _ _ (by simp; omega) (by simp; omega)
theorem JO (h:V5) (l:List UInt8) (hl:l.length<64):CY h l=(h,l):=by
 unfold CY
 cases hn:l.length with
 | zero=>rfl
 | succ n=>simp only [Bir]; rw [if_pos hl]
theorem Sj (h:V5) (l:List UInt8) (hl:64≤l.length):CY h l=CY (blk h (l.take 64)) (l.drop 64):=by
 unfold CY
 obtain ⟨n,hn⟩:∃ n,l.length=n+1:=⟨l.length - 1,by omega⟩
 rw [hn]
 simp only [Bir]
 rw [if_neg (by omega)]
 exact A23 _ _ _ _ (by simp; omega) (Nat.le_refl _)
theorem Aet (h:V5) (l:List UInt8):(CY h l).2.length<64:=by
 suffices H:∀ (n:Nat) (h:V5) (l:List UInt8),l.length≤n→(CY h l).2.length<64 from H _ h l (Nat.le_refl _)
 intro n
 induction n with
 | zero=>intro h l hl; rw [JO _ _ (by omega)]; simp; omega
 | succ n ih =>
  intro h l hl
  rcases Nat.lt_or_ge l.length 64 with h1 | h1
  ·rw [JO _ _ h1]; exact h1
  ·rw [Sj _ _ h1]; exact ih _ _ (by simp; omega)
theorem AjN (h:V5) (l:List UInt8) (hh:h.ok):(CY h l).1.ok:=by
 suffices H:∀ (n:Nat) (h:V5) (l:List UInt8),h.ok→l.length≤n→(CY h l).1.ok from H _ h l hh (Nat.le_refl _)
 intro n
 induction n with
 | zero=>intro h l hh hl; rw [JO _ _ (by omega)]; exact hh
 | succ n ih =>
  intro h l hh hl
  rcases Nat.lt_or_ge l.length 64 with h1 | h1
  ·rw [JO _ _ h1]; exact hh
  ·rw [Sj _ _ h1]; exact ih _ _ (Ap8 _ _) (by simp; omega)
theorem Ang (h:V5) (l m:List UInt8):CY h (l++m)=CY (CY h l).1 ((CY h l).2++m):=by
 suffices H:∀ (n:Nat) (h:V5) (l:List UInt8),l.length≤n→CY h (l++m)=CY (CY h l).1 ((CY h l).2++m) from H _ h l (Nat.le_refl _)
 intro n
 induction n with
 | zero=>intro h l hl; rw [JO h l (by omega)]
 | succ n ih =>
  intro h l hl
  rcases Nat.lt_or_ge l.length 64 with h1 | h1
  ·rw [JO h l h1]
  ·rw [Sj h l h1,Sj h (l++m) (by simp; omega),List.take_append_of_le_length h1,List.drop_append_of_le_length h1]
   exact ih _ _ (by simp; omega)
def H0:V5:=⟨1732584193,4023233417,2562383102,271733878,3285377520⟩
theorem Bip:H0.ok:=by unfold V5.ok H0; refine ⟨?_,?_,?_,?_,?_⟩<;>decide
def be8 (n:Nat):List UInt8:=(List.range 8).map fun k=>UInt8.ofNat (n / 2 ^ (56 - 8*k) % 256)
theorem NY (n:Nat):(be8 n).length=8:=by simp [be8]
theorem Aqk (n i:Nat) (hi:i<8):(be8 n).take (i+1)=(be8 n).take i++[UInt8.ofNat (n / 2 ^ (56 - 8*i) % 256)]:=by
 rw [List.take_succ_eq_append_getElem (by rw [NY]; exact hi)]
 congr 2
 simp [be8]
def Ago (n:Nat):List UInt8:=128::List.replicate ((119 - n % 64) % 64) 0++be8 (n*8 % 18446744073709551616)
def Hl (v:V5):List UInt8:=(List.range 20).map fun i=>UInt8.ofNat (v.list.getD (i / 4) 0 / 2 ^ (24 - 8*(i % 4)) % 256)
theorem DT (v:V5):(Hl v).length=20:=by simp [Hl]
theorem AlR (v:V5) (i:Nat) (hi:i<20):(Hl v).take (i+1)=(Hl v).take i++[UInt8.ofNat (v.list.getD (i / 4) 0 / 2 ^ (24 - 8*(i % 4)) % 256)]:=by
 rw [List.take_succ_eq_append_getElem (by rw [DT]; exact hi)]
 congr 2
 simp [Hl]
def z8 (n:Nat):List Value:=List.replicate n (.int .u8 0)
theorem AqU (v:V5) (i:Nat) (hi:i<20):(bv ((Hl v).take i)++z8 (20 - i))[i]?=some (.int .u8 0):=by
 rw [List.getElem?_append_right (by simp [DT]; omega),O0,List.length_take,DT,z8,List.getElem?_replicate,if_pos (by omega)]
theorem ArD (v:V5) (i k:Nat) (hi:i<5) (hk:k<4):(Hl v).take (4*i+k+1)=(Hl v).take (4*i+k)++[UInt8.ofNat (v.list.getD i 0 / 2 ^ (24 - 8*k) % 256)]:=by
 have h:=AlR v (4*i+k) (by omega)
 rw [show (4*i+k) / 4=i from by omega,show (4*i+k) % 4=k from by omega] at h
 exact h
theorem Be0 (v:V5) (i:Nat) (hi:i<20) {y:UInt8} (hy:(Hl v).take (i+1)=(Hl v).take i++[y]) {z:Int} (hz:z=(y.toNat:Int)):(bv ((Hl v).take i)++z8 (20 - i)).set i (.int .u8 z)=bv ((Hl v).take (i+1))++z8 (20 - (i+1)):=by
 subst hz
 have hl:(bv ((Hl v).take i)).length=i:=by simp [DT]; omega
 rw [List.set_append_right _ _ (by omega),hl,Nat.sub_self,hy,show 20 - i=(20 - (i+1))+1 from by omega]
 simp [z8,List.replicate_succ,bv]
theorem Bh0 {n z j m:Nat} (hz:z=(119 - n % 64) % 64) (hj:j<z) (hm:m=n+1+j):(((m:Int) % 64) != 56)=true:=by rw [bne_iff_ne]; omega
theorem BgE {n z j m:Nat} (hz:z=(119 - n % 64) % 64) (hj:j=z) (hm:m=n+1+j):(((m:Int) % 64) != 56)=false:=by rw [bne_eq_false_iff_eq]; omega
theorem Bi6 (l:List UInt8):∃ q,(l++Ago l.length).length=64*q:=by
 have h:(l++Ago l.length).length=l.length+(1+(119 - l.length % 64) % 64+8):=by simp [Ago,NY]; omega
 rw [h]
 exact ⟨(l.length+(1+(119 - l.length % 64) % 64+8)) / 64,by omega⟩
theorem Bh4 (n:Nat):(Ago n).length≤73:=by simp [Ago,NY]; omega
theorem Bgw (n q:Nat) (hq:q<8):(be8 n).take (8 - q)=(be8 n).take (7 - q)++[UInt8.ofNat (n / 2 ^ (8*q) % 256)]:=by
 have h:=Aqk n (7 - q) (by omega)
 rw [show 7 - q+1=8 - q from by omega,show 56 - 8*(7 - q)=8*q from by omega] at h
 exact h
def sha (l:List UInt8):List UInt8:=Hl (CY H0 (l++Ago l.length)).1
@[simp] theorem JC (l:List UInt8):(sha l).length=20:=by simp [sha,Hl]
structure AcR (p:List UInt8) (h:V5) (i:Nat) (v:V5):Prop where
 eq:AoZ i v ((wl p 80).drop i)=AoZ 0 h (wl p 80)
theorem AcR.zero (p:List UInt8) (h:V5):AcR p h 0 h:=⟨rfl⟩
theorem AcR.succ {p:List UInt8} {h v:V5} {i:Nat} (H:AcR p h i v) (hi:i<80):AcR p h (i+1) (rnd i v ((wl p 80).getD i 0)):=by
 have e:=H.eq; rw [A3q _ _ _ (by rw [Y4]; exact hi)] at e; exact ⟨e⟩
theorem AcR.last {p:List UInt8} {h v:V5} (H:AcR p h 80 v):v=AoZ 0 h (wl p 80):=by
 have e:=H.eq; rw [List.drop_eq_nil_of_le (by rw [Y4]; exact Nat.le_refl _)] at e; exact e
def Bjh (h v:V5) (k:Nat):List Nat:=(Bli h v).list.take k++h.list.drop k
theorem AkQ (h v:V5) (k:Nat):(Bjh h v k).length=5:=by
 simp [Bjh,V5.list]; omega
theorem Aqj (h v:V5) (k:Nat) (hk:k<5):(MJ (Bjh h v k))[k]?=some (.int .u32 ((h.list.getD k 0:Nat):Int)):=by
 rcases (show k=0∨k=1∨k=2∨k=3∨k=4 from by omega) with rfl | rfl | rfl | rfl | rfl<;>rfl
theorem Arh (h v:V5) (k:Nat) (hk:k<5):(MJ (Bjh h v k)).set k (.int .u32 (((h.list.getD k 0+v.list.getD k 0) % 4294967296:Nat):Int))=MJ (Bjh h v (k+1)):=by
 rcases (show k=0∨k=1∨k=2∨k=3∨k=4 from by omega) with rfl | rfl | rfl | rfl | rfl<;>rfl
theorem AnR (h v:V5):Bjh h v 5=(Bli h v).list:=rfl
theorem AgT (v:V5) (k:Nat) (hk:k<5):(MJ v.list)[k]?=some (.int .u32 ((v.list.getD k 0:Nat):Int)):=by
 rcases (show k=0∨k=1∨k=2∨k=3∨k=4 from by omega) with rfl | rfl | rfl | rfl | rfl<;>rfl
theorem V5.ok.get {v:V5} (h:v.ok) (k:Nat):v.list.getD k 0<4294967296:=by
 refine AmJ ?_ (by omega) k
 intro x hx
 simp only [V5.list,List.mem_cons,List.not_mem_nil,or_false] at hx
 obtain ⟨h1,h2,h3,h4,h5⟩:=h
 rcases hx with rfl | rfl | rfl | rfl | rfl<;>assumption
theorem Br6 {i b c d:Nat} (h:i<20):sff i b c d=sf1 b c d:=by unfold sff; rw [if_pos h]
theorem Bsk {i b c d:Nat} (h:20≤i) (h2:i<40):sff i b c d=sf2 b c d:=by unfold sff; rw [if_neg (by omega),if_pos h2]
theorem Br4 {i b c d:Nat} (h:40≤i) (h2:i<60):sff i b c d=sf3 b c d:=by unfold sff; rw [if_neg (by omega),if_neg (by omega),if_pos h2]
theorem Br9 {i b c d:Nat} (h:60≤i):sff i b c d=sf2 b c d:=by unfold sff; rw [if_neg (by omega),if_neg (by omega),if_neg (by omega)]
theorem Bsq {i:Nat} (h:i<20):skk i=1518500249:=by unfold skk; rw [if_pos h]
theorem Bsg {i:Nat} (h:20≤i) (h2:i<40):skk i=1859775393:=by unfold skk; rw [if_neg (by omega),if_pos h2]
theorem BsT {i:Nat} (h:40≤i) (h2:i<60):skk i=2400959708:=by unfold skk; rw [if_neg (by omega),if_neg (by omega),if_pos h2]
theorem Bsw {i:Nat} (h:60≤i):skk i=3395469782:=by unfold skk; rw [if_neg (by omega),if_neg (by omega),if_neg (by omega)]
end Go.Proofs.YtnkpoloeifhflaaGreatDoor.Kit
namespace Go.Proofs.YtnkpoloeifhflaaGreatDoor
section
structure SW {α:Type} (lt:α→α→Bool):Prop where
 asym:∀ {x y},lt x y=true→lt y x=false
 ntr:∀ {x y z},lt x y=false→lt y z=false→lt x z=false
variable {α:Type} {lt:α→α→Bool}
def A3t (lt:α→α→Bool) (x y:α):Bool := !lt x y && !lt y x
def XD (lt:α→α→Bool) (l:List α):Prop:=l.Pairwise fun x y=>lt y x=false
def Qq (lt:α→α→Bool) (l m:List α):Prop:=∀ x,l.filter (A3t lt x)=m.filter (A3t lt x)
theorem SW.refl (h:SW lt) (x:α):lt x x=false:=by
 cases e:lt x x with
 | false=>rfl
 | true=>have:=h.asym e; rw [e] at this; cases this
theorem AgX (h:SW lt) (x:α):A3t lt x x=true:=by unfold A3t; rw [h.refl]; rfl
theorem Qq.refl (l:List α):Qq lt l l:=fun _=>rfl
theorem Qq.trans {l m n:List α} (h:Qq lt l m) (h2:Qq lt m n):Qq lt l n:=fun x=>(h x).trans (h2 x)
theorem Qq.symm {l m:List α} (h:Qq lt l m):Qq lt m l:=fun x=>(h x).symm
theorem Qq.append {a b c d:List α} (h:Qq lt a b) (h2:Qq lt c d):Qq lt (a++c) (b++d):=fun x=>by rw [List.filter_append,List.filter_append,h x,h2 x]
theorem Qq.mem (hw:SW lt) {l m:List α} (h:Qq lt l m) {x:α} (hx:x∈l):x∈m:=by
 have:x∈l.filter (A3t lt x):=List.mem_filter.2 ⟨hx,AgX hw x⟩
 rw [h x] at this
 exact (List.mem_filter.1 this).1
theorem Qq.swap (hw:SW lt) {a b:List α} (h:∀ x∈a,∀ y∈b,lt y x=true):Qq lt (b++a) (a++b):=fun z=>by
 rw [List.filter_append,List.filter_append]
 by_cases hb:b.filter (A3t lt z)=[]
 ·rw [hb]; simp
 ·have ha:a.filter (A3t lt z)=[]:=by
   rw [List.filter_eq_nil_iff]
   intro x hx he
   obtain ⟨y,hy⟩:=List.exists_mem_of_ne_nil _ hb
   obtain ⟨hy1,hy2⟩:=List.mem_filter.1 hy
   have h1:=h x hx y hy1
   unfold A3t at he hy2
   simp only [Bool.and_eq_true,Bool.not_eq_true'] at he hy2
   have:=hw.ntr hy2.2 he.1
   rw [h1] at this
   cases this
  rw [ha]; simp
theorem AqL (hw:SW lt):∀ {l m:List α},XD lt l→XD lt m→Qq lt l m→l=m
 | [],[],_,_,_=>rfl
 | [],d::m,_,_,h=>by have:=h d; simp [AgX hw] at this
 | c::l,[],_,_,h=>by have:=h c; simp [AgX hw] at this
 | c::l,d::m,hl,hm,h=>by
  have hl2:=List.pairwise_cons.1 hl
  have hm2:=List.pairwise_cons.1 hm
  have hcd:lt c d=false:=by
   rcases List.mem_cons.1 (h.mem hw (List.mem_cons_self (a:=c) (l:=l))) with e | e
   ·rw [e]; exact hw.refl d
   ·exact hm2.1 c e
  have hdc:lt d c=false:=by
   rcases List.mem_cons.1 (h.symm.mem hw (List.mem_cons_self (a:=d) (l:=m))) with e | e
   ·rw [e]; exact hw.refl c
   ·exact hl2.1 d e
  have heq:A3t lt c d=true:=by unfold A3t; rw [hcd,hdc]; rfl
  have hc:=h c
  rw [List.filter_cons_of_pos (AgX hw c),List.filter_cons_of_pos heq] at hc
  obtain rfl:=(List.cons.inj hc).1
  refine congrArg (c :: ·) (AqL hw hl2.2 hm2.2 fun x => ?_)
  have hx:=h x
  by_cases e:A3t lt x c=true
  ·rw [List.filter_cons_of_pos e,List.filter_cons_of_pos e] at hx
   exact (List.cons.inj hx).2
  ·rw [List.filter_cons_of_neg e,List.filter_cons_of_neg e] at hx
   exact hx
def Aof (lt:α→α→Bool) (e:α):List α→List α
 | []=>[e]
 | d::l=>if lt e d then e::d::l else d::Aof lt e l
def AlT (lt:α→α→Bool) (l:List α):List α:=l.foldl (fun o e=>Aof lt e o) []
theorem Anq (hw:SW lt) (e:α):∀ {l:List α},XD lt l→∃ a b,l=a++b∧Aof lt e l=a++e::b∧(∀ x∈a,lt e x=false)∧(∀ x∈b,lt e x=true)
 | [],_=>⟨[],[],rfl,rfl,by simp,by simp⟩
 | d::l,h=>by
  have h2:=List.pairwise_cons.1 h
  rw [Aof]
  by_cases hd:lt e d=true
  ·rw [if_pos hd]
   refine ⟨[],d::l,rfl,rfl,by simp,fun x hx => ?_⟩
   rcases List.mem_cons.1 hx with rfl | hx
   ·exact hd
   ·cases he:lt e x with
    | true=>rfl
    | false =>
     have:=hw.ntr he (h2.1 x hx)
     rw [hd] at this; cases this
  ·rw [if_neg hd]
   obtain ⟨a,b,rfl,h3,h4,h5⟩:=Anq hw e h2.2
   refine ⟨d::a,b,rfl,by rw [h3]; rfl,fun x hx => ?_,h5⟩
   rcases List.mem_cons.1 hx with rfl | hx
   ·exact Bool.eq_false_iff.2 hd
   ·exact h4 x hx
theorem BfF (hw:SW lt) (e:α) {l:List α} (h:XD lt l):XD lt (Aof lt e l)∧Qq lt (Aof lt e l) (l++[e]):=by
 obtain ⟨a,b,rfl,h2,h3,h4⟩:=Anq hw e h
 rw [h2]
 have hp:=List.pairwise_append.1 h
 constructor
 ·refine List.pairwise_append.2 ⟨hp.1,List.pairwise_cons.2 ⟨fun x hx=>hw.asym (h4 x hx),hp.2.1⟩,fun x hx y hy => ?_⟩
  rcases List.mem_cons.1 hy with rfl | hy
  ·exact h3 x hx
  ·exact hp.2.2 x hx y hy
 ·rw [List.append_assoc]
  refine Qq.append (Qq.refl a) ?_
  exact Qq.swap hw (a:=b) (b:=[e]) fun x hx y hy=>by rw [List.mem_singleton] at hy; subst hy; exact h4 x hx
theorem Aoa (hw:SW lt):∀ (l o:List α),XD lt o→XD lt (l.foldl (fun o e=>Aof lt e o) o)∧Qq lt (l.foldl (fun o e=>Aof lt e o) o) (o++l)
 | [],o,h=>by simp only [List.foldl_nil,List.append_nil]; exact ⟨h,Qq.refl o⟩
 | e::l,o,h=>by
  rw [List.foldl_cons]
  obtain ⟨h1,h2⟩:=BfF hw e h
  obtain ⟨h3,h4⟩:=Aoa hw l (Aof lt e o) h1
  refine ⟨h3,h4.trans ?_⟩
  rw [show o++e::l=(o++[e])++l by simp]
  exact h2.append (Qq.refl l)
theorem Arc (hw:SW lt) (l:List α):XD lt (AlT lt l)∧Qq lt (AlT lt l) l:=by
 have:=Aoa hw l [] List.Pairwise.nil
 rwa [List.nil_append] at this
theorem BlK (hw:SW lt) {l m:List α} (h:XD lt m) (h2:Qq lt m l):m=AlT lt l :=
 AqL hw h (Arc hw l).1 (h2.trans (Arc hw l).2.symm)
theorem BeQ (hw:SW lt) {a1 a2 b1 b2 c d:List α} (ha:XD lt (a1++a2)) (hb:XD lt (b1++b2)) (h12:∀ x∈a1.getLast?,∀ y∈b2.head?,lt y x=false) (h21:∀ x∈b1.getLast?,∀ y∈a2.head?,lt x y=true)
  (hc:XD lt c) (hc2:Qq lt c (a1++b1)) (hd:XD lt d) (hd2:Qq lt d (a2++b2)):XD lt (c++d)∧Qq lt (c++d) ((a1++a2)++(b1++b2)):=by
 have pa:=List.pairwise_append.1 ha
 have pb:=List.pairwise_append.1 hb
 -- all of a1 before all of b2
 have lastA:∀ z,(∀ x∈a1.getLast?,lt z x=false)→∀ x∈a1,lt z x=false:=fun z hz x hx=>by
  obtain ⟨l,y,rfl⟩:∃ l y,a1=l++[y]:=⟨_,_,(List.dropLast_concat_getLast (List.ne_nil_of_mem hx)).symm⟩
  have hy:=hz y (by simp)
  rcases List.mem_append.1 hx with h | h
  ·have:=(List.pairwise_append.1 pa.1).2.2 x h y (by simp)
   exact hw.ntr hy this
  ·rw [List.mem_singleton] at h; subst h; exact hy
 have s12:∀ x∈a1,∀ y∈b2,lt y x=false:=fun x hx y hy=>by
  obtain ⟨e,t,rfl⟩:=List.exists_cons_of_ne_nil (List.ne_nil_of_mem hy)
  have he:∀ x∈a1,lt e x=false:=lastA e fun x hx=>h12 x hx e (by simp)
  rcases List.mem_cons.1 hy with rfl | h
  ·exact he x hx
  ·exact hw.ntr ((List.pairwise_cons.1 pb.2.1).1 y h) (he x hx)
 have s21:∀ x∈a2,∀ y∈b1,lt y x=true:=fun x hx y hy=>by
  obtain ⟨e,t,rfl⟩:=List.exists_cons_of_ne_nil (List.ne_nil_of_mem hx)
  obtain ⟨l,z,rfl⟩:∃ l z,b1=l++[z]:=⟨_,_,(List.dropLast_concat_getLast (List.ne_nil_of_mem hy)).symm⟩
  have hze:=h21 z (by simp) e (by simp)
  have hyz:lt z y=false:=by
   rcases List.mem_append.1 hy with h | h
   ·exact (List.pairwise_append.1 pb.1).2.2 y h z (by simp)
   ·rw [List.mem_singleton] at h; subst h; exact hw.refl _
  have hex:lt x e=false:=by
   rcases List.mem_cons.1 hx with rfl | h
   ·exact hw.refl _
   ·exact (List.pairwise_cons.1 pa.2.1).1 x h
  cases hyx:lt y x with
  | true=>rfl
  | false =>
   have h1:=hw.ntr hyx hex
   have h2:=hw.ntr hyz h1
   rw [hze] at h2; cases h2
 refine ⟨List.pairwise_append.2 ⟨hc,hd,fun x hx y hy => ?_⟩,?_⟩
 ·rcases List.mem_append.1 (hc2.mem hw hx) with h | h<;>rcases List.mem_append.1 (hd2.mem hw hy) with k | k
  ·exact pa.2.2 x h y k
  ·exact s12 x h y k
  ·exact hw.asym (s21 y k x h)
  ·exact pb.2.2 x h y k
 ·have h1:Qq lt (c++d) ((a1++b1)++(a2++b2)):=hc2.append hd2
  refine h1.trans ?_
  have h2:Qq lt (b1++a2) (a2++b1):=Qq.swap hw s21
  have e1:(a1++b1)++(a2++b2)=a1++((b1++a2)++b2):=by simp
  have e2:(a1++a2)++(b1++b2)=a1++((a2++b1)++b2):=by simp
  rw [e1,e2]
  exact (Qq.refl a1).append (h2.append (Qq.refl b2))
end
section
open Go.RowKit
variable [AL]
structure EnJ where
 path:List UInt8
 mode:Int
 id:List UInt8
 size:Int
 stage:Int
def ltJ (x y:EnJ):Bool:=decide (ltB x.path y.path) || (decide (x.path=y.path) && decide (x.stage<y.stage))
theorem AjP {x y:EnJ}:ltJ x y=true↔ltB x.path y.path∨(x.path=y.path∧x.stage<y.stage):=by unfold ltJ; simp
theorem AqG {x y:EnJ}:ltJ x y=false↔¬ ltB x.path y.path∧(x.path=y.path→¬ x.stage<y.stage):=by
 rw [←Bool.not_eq_true,AjP,not_or]
 constructor
 ·rintro ⟨h1,h2⟩; exact ⟨h1,fun e h=>h2 ⟨e,h⟩⟩
 ·rintro ⟨h1,h2⟩; exact ⟨h1,fun h=>h2 h.1 h.2⟩
theorem swJ:SW ltJ where
 asym {x y} h:=by
  rw [AqG]
  rcases AjP.1 h with h | ⟨e,h⟩
  ·exact ⟨fun k=>Gf _ (Qj h k),fun e=>by rw [e] at h; exact absurd h (Gf _)⟩
  ·refine ⟨fun k => ?_,fun _ k=>by omega⟩
   rw [e] at k; exact Gf _ k
 ntr {x y z} h1 h2:=by
  rw [AqG] at h1 h2 ⊢
  constructor
  ·intro h
   by_cases k:ltB y.path x.path
   ·exact h2.1 (Qj k h)
   ·have e:x.path=y.path:=Afp h1.1 k
    rw [e] at h; exact h2.1 h
  ·intro e h
   have e1:x.path=y.path:=by
    by_cases k:ltB y.path x.path
    ·rw [e] at k; exact absurd k h2.1
    ·exact Afp h1.1 k
   have a:=h1.2 e1
   have b:=h2.2 (by rw [←e1,e])
   omega
def Bqn (e:EnJ):Bool:=(decide (e.mode=33188) || decide (e.mode=33261) || decide (e.mode=40960)) && decide (0≤e.size∧e.size≤100000) && decide (0≤e.stage∧e.stage≤3)
def Brt (x y:EnJ):Prop:=x.path=y.path∧(x.stage=y.stage∨x.stage=0∨y.stage=0)
instance (x y:EnJ):Decidable (Brt x y):=by unfold Brt; infer_instance
def Bsm (x y:EnJ):Prop:=x.path=y.path∧(x.stage=y.stage∨x.stage=0)
instance (x y:EnJ):Decidable (Bsm x y):=by unfold Bsm; infer_instance
def BoJ (l:List EnJ):Prop:=l.Pairwise fun x y=>¬ Brt x y
instance (l:List EnJ):Decidable (BoJ l):=by unfold BoJ; infer_instance
theorem AoQ {α:Type} {lt:α→α→Bool} (e:α):∀ l:List α,(Aof lt e l).Perm (e::l)
 | []=>List.Perm.refl _
 | d::l=>by
  rw [Aof]
  split
  ·exact List.Perm.refl _
  ·exact ((AoQ e l).cons d).trans (List.Perm.swap e d l)
theorem AlF {α:Type} {lt:α→α→Bool}:∀ (l o:List α),(l.foldl (fun o e=>Aof lt e o) o).Perm (o++l)
 | [],o=>by simp
 | e::l,o=>by
  rw [List.foldl_cons]
  refine (AlF l _).trans ?_
  refine ((AoQ e o).append_right l).trans ?_
  rw [List.cons_append]
  exact (List.perm_middle (a:=e) (l₁:=o) (l₂:=l)).symm
theorem Agz {α:Type} {lt:α→α→Bool} (l:List α):(AlT lt l).Perm l:=by
 have:=AlF (lt:=lt) l []
 rwa [List.nil_append] at this
def BsO (x y:EnJ):Prop:=(x.path++[47]) <+: y.path
instance (x y:EnJ):Decidable (BsO x y):=by unfold BsO; infer_instance
end
section
open Go.RowKit Kit
variable [AL]
structure ObD where
 kind:Int
 data:List UInt8
def Xy (o:ObD):Option (List UInt8):=match Af0 o.kind o.data with
 | .ok b=>some (sha b)
 | .error _=>none
open Classical in
noncomputable def rdT (d:List UInt8):Option (List En):=if h:∃ l,QB l d then some h.choose else none
theorem Al9 {d:List UInt8} {l:List En} (h:rdT d=some l):QB l d:=by
 unfold rdT at h
 split at h
 ·rename_i hh
  cases h; exact hh.choose_spec
 ·cases h
theorem Aq2 {d:List UInt8} (h:rdT d=none):∀ l,¬ QB l d:=by
 unfold rdT at h
 split at h
 ·cases h
 ·rename_i hh
  exact fun l hl=>hh ⟨l,hl⟩
noncomputable def AfZ (o:ObD) (i:List UInt8):Option (List En):=if o.kind=2∧Xy o=some i then rdT o.data else none
noncomputable def JR:List ObD→List UInt8→Option (List En)
 | [],_=>none
 | o::l,i=>match AfZ o i with
  | some t=>some t
  | none=>JR l i
theorem Bfa {l m:List ObD} {i:List UInt8}:JR (l++m) i=match JR l i with | some t=>some t | none=>JR m i:=by
 induction l with
 | nil=>rfl
 | cons o l ih =>
  rw [List.cons_append,JR,JR]
  cases AfZ o i with
  | some t=>rfl
  | none=>exact ih
theorem AlJ {l:List ObD} {i:List UInt8} {t:List En} (h:JR l i=some t):∃ o∈l,AfZ o i=some t:=by
 induction l with
 | nil=>cases h
 | cons o l ih =>
  rw [JR] at h
  cases ho:AfZ o i with
  | some t'=>rw [ho] at h; cases h; exact ⟨o,by simp,ho⟩
  | none =>
   rw [ho] at h
   obtain ⟨o',h1,h2⟩:=ih h
   exact ⟨o',by simp [h1],h2⟩
theorem Apg {o:ObD} {i:List UInt8} {t:List En} (h:AfZ o i=some t):o.kind=2∧Xy o=some i∧QB t o.data:=by
 unfold AfZ at h
 split at h
 ·rename_i hh
  exact ⟨hh.1,hh.2,Al9 h⟩
 ·cases h
def AcS (l:List ObD):Prop:=∀ a∈l,∀ b∈l,∀ i,Xy a=some i→Xy b=some i→a.kind=b.kind∧a.data=b.data
theorem AcS.take {l:List ObD} (h:AcS l) (n:Nat):AcS (l.take n):=fun a ha b hb=>h a (List.mem_of_mem_take ha) b (List.mem_of_mem_take hb)
noncomputable def AjZ (es:List (List UInt8×TV)) (o:ObD):List (List UInt8×TV):=match Xy o with
 | none=>es
 | some i=>if o.kind=2 then match rdT o.data with
  | some t=>AbS i (.sl 22 (t.map enT)) es
  | none=>es
  else es
def AmA (es:List (List UInt8×TV)) (look:List UInt8→Option (List En)):Prop:=∀ i,Vr i es=(look i).map fun t => .sl 22 (t.map enT)
theorem AmA.nil:AmA [] (JR []):=fun i=>rfl
theorem AmA.step {es:List (List UInt8×TV)} {l:List ObD} {o:ObD} (h:AmA es (JR l)) (hc:AcS (l++[o])):AmA (AjZ es o) (JR (l++[o])):=by
 intro i
 have e1:∀ j,JR [o] j=AfZ o j:=fun j=>by rw [JR]; cases AfZ o j<;>rfl
 rw [Bfa,e1]
 unfold AjZ
 have hno:∀ j,Xy o=some j→j≠i→AfZ o i=none:=fun j hj hne=>by
  unfold AfZ
  rw [if_neg (fun hh=>hne (by rw [hj] at hh; exact Option.some.inj hh.2))]
 cases hi:Xy o with
 | none =>
  have:AfZ o i=none:=by unfold AfZ; rw [if_neg (by rw [hi]; simp)]
  rw [this]
  show Vr i es=_
  rw [h i]
  cases JR l i<;>rfl
 | some j =>
  show Vr i (if o.kind=2 then _ else es)=_
  by_cases hk:o.kind=2
  ·rw [if_pos hk]
   cases ht:rdT o.data with
   | none =>
    have:AfZ o i=none:=by unfold AfZ; split<;>first | exact ht | rfl
    rw [this]
    show Vr i es=_
    rw [h i]
    cases JR l i<;>rfl
   | some t =>
    show Vr i (AbS j (.sl 22 (t.map enT)) es)=_
    rw [A3c]
    by_cases hji:j=i
    ·subst hji
     have ho:AfZ o j=some t:=by unfold AfZ; rw [if_pos ⟨hk,hi⟩]; exact ht
     rw [if_pos rfl,ho]
     cases hl:JR l j with
     | none=>rfl
     | some t' =>
      obtain ⟨o',hm,ho'⟩:=AlJ hl
      have h2:=hc o' (by simp [hm]) o (by simp) j (Apg ho').2.1 hi
      have:AfZ o' j=AfZ o j:=by unfold AfZ; rw [h2.1,h2.2,(Apg ho').2.1,hi]
      rw [ho',ho] at this
      cases this; rfl
    ·rw [if_neg hji,hno j hi hji,h i]
     cases JR l i<;>rfl
  ·rw [if_neg hk]
   have:AfZ o i=none:=by unfold AfZ; rw [if_neg (fun hh=>hk hh.1)]
   rw [this,h i]
   cases JR l i<;>rfl
def AhG (rec:List UInt8→List UInt8→List EnJ→Except Nat (List EnJ)) (dir:List UInt8):List En→List EnJ→Except Nat (List EnJ)
 | [],out => .ok out
 | e::t,out=>if (dir++e.name).length > 100 then .error 71 else if e.mode=16384 then match rec e.id (dir++e.name++[47]) out with
   | .error c => .error c
   | .ok o=>AhG rec dir t o
  else if out.length≥2000 then .error 70 else AhG rec dir t (out++[⟨dir++e.name,e.mode,e.id,0,0⟩])
def LD (look:List UInt8→Option (List En)):Nat→List UInt8→List UInt8→List EnJ→Except Nat (List EnJ)
 | 0,_,_,_ => .error 71
 | f+1,i,dir,out=>match look i with
  | none => .error 50
  | some t=>if t=[]∧dir≠[] then .error 21 else AhG (LD look f) dir t out
def BeZ (look:List UInt8→Option (List En)):Prop:=∀ i t,look i=some t→t.length≤2000∧∀ e∈t,Al8 e
theorem Ab7 {l:List ObD}:BeZ (JR l):=fun i t h=>by
 obtain ⟨o,_,ho⟩:=AlJ h
 have:=(Apg ho).2.2.1
 exact ⟨this.1,this.2.1⟩
def Af6 (out:List EnJ):Prop:=out.length≤2000∧∀ e∈out,e.id.length=20
theorem Aqi {rec:List UInt8→List UInt8→List EnJ→Except Nat (List EnJ)} {dir:List UInt8} (hr:∀ i d out o,Af6 out→rec i d out = .ok o→Af6 o):∀ {t:List En} {out o:List EnJ},(∀ e∈t,Al8 e)→Af6 out→AhG rec dir t out = .ok o→Af6 o
 | [],out,o,_,h,e=>by rw [AhG] at e; cases e; exact h
 | x::t,out,o,ht,h,e=>by
  rw [AhG] at e
  split at e
  ·cases e
  split at e
  ·split at e
   ·cases e
   ·rename_i h2
    exact Aqi hr (fun y hy=>ht y (by simp [hy])) (hr _ _ _ _ h h2) e
  split at e
  ·cases e
  ·rename_i hlt
   refine Aqi hr (fun y hy=>ht y (by simp [hy])) ⟨by simp; omega,fun y hy => ?_⟩ e
   rcases List.mem_append.1 hy with hy | hy
   ·exact h.2 y hy
   ·rw [List.mem_singleton.1 hy]; exact (ht x (by simp)).2.2
theorem Adn {look:List UInt8→Option (List En)} (hl:BeZ look):∀ {f:Nat} {i d:List UInt8} {out o:List EnJ},Af6 out→LD look f i d out = .ok o→Af6 o
 | 0,_,_,_,_,_,h=>by rw [LD] at h; cases h
 | f+1,i,d,out,o,ho,h=>by
  rw [LD] at h
  split at h
  ·cases h
  ·rename_i t ht
   split at h
   ·cases h
   ·exact Aqi (fun _ _ _ _ h1 h2=>Adn hl h1 h2) (hl i t ht).2 ho h
def Alb (c:Nat):Prop:=c=21∨c=50∨c=70∨c=71
theorem Anb {rec:List UInt8→List UInt8→List EnJ→Except Nat (List EnJ)} {dir:List UInt8} (hr:∀ i d out c,rec i d out = .error c→Alb c):∀ {t:List En} {out:List EnJ} {c:Nat},AhG rec dir t out = .error c→Alb c
 | [],out,c,e=>by rw [AhG] at e; cases e
 | x::t,out,c,e=>by
  rw [AhG] at e
  split at e
  ·cases e; simp [Alb]
  split at e
  ·split at e
   ·rename_i h2
    cases e; exact hr _ _ _ _ h2
   ·exact Anb hr e
  split at e
  ·cases e; simp [Alb]
  ·exact Anb hr e
theorem Ahh {look:List UInt8→Option (List En)}:∀ {f:Nat} {i d:List UInt8} {out:List EnJ} {c:Nat},LD look f i d out = .error c→Alb c
 | 0,_,_,_,_,h=>by rw [LD] at h; cases h; simp [Alb]
 | f+1,i,d,out,c,h=>by
  rw [LD] at h
  split at h
  ·cases h; simp [Alb]
  ·split at h
   ·cases h; simp [Alb]
   ·exact Anb (fun _ _ _ _ h2=>Ahh h2) h
end
section
variable [AL]
set_option maxRecDepth 100000
def DC:Af := .ops [mv_ 4 0,mv_ 5 0,po_ 6 (.lenV (.t 5)),mv_ 7 1,so_ 8 (.call 71 [.t 4,.t 6,.t 7])] []
def DD:List VR:=[]
theorem JV:Tryz.f43.body.bind (trC Tryz.prog Tryz.f43.ntmps)=some (er DC):=by kernel_rfl
theorem JQ:trR Tryz.prog Tryz.f43.results.toList=some DD:=by kernel_rfl
def Jt:=Aa DC.eq_1
theorem Jw {K:TV→Prop} {e:Env} {H:List Ob}:res DD e H K=res [] e H K:=Ad rfl
def AU:=(aI_ @Jt @Jw)
def Dx:=D7 9 Tryz.func43 JV JQ rfl
def Gx:Af := .seq (.seq (.ops [mv_ 11 8,mv_ 12 1,po_ 13 (.bin 3 .leq (.t 11) (.t 12))] [0,1,2,6,7,8,13])
 (.cond (.t 13)
 (.skip)
 (.exit 0)))
 (.block 1 (.seq (.ops [mv_ 14 0,mv_ 15 7,mv_ 16 8,mv_ 17 2,so_ 18 (.call 101 [.t 14,.t 15,.t 16,.t 17])] [0,1,2,6,8])
 (.seq (.ops [mv_ 19 8,mv_ 7 19] [0,1,2,6,7,8])
 (.ops [mv_ 20 8,mv_ 21 6,po_ 22 (.bin 3 .add (.t 20) (.t 21)),mv_ 8 22] [0,1,2,6,7,8]))))
def Gj:Af := .block 5 (.seq (.ops [mv_ 36 0,mv_ 37 7,mv_ 38 7,mv_ 39 6,po_ 40 (.bin 3 .add (.t 38) (.t 39)),mv_ 41 8,mv_ 42 2,so_ 43 (.call 102 [.t 36,.t 37,.t 40,.t 41,.t 42])] [0,1,2,6,8])
 (.seq (.ops [mv_ 44 8,mv_ 7 44] [0,1,2,6,7,8])
 (.ops [mv_ 45 8,mv_ 46 6,po_ 47 (.bin 3 .mul (ci_ 2) (.t 46)),po_ 48 (.bin 3 .add (.t 45) (.t 47)),mv_ 8 48] [0,1,2,6,7,8])))
def Gn:Af := .seq (.seq (.ops [mv_ 33 8,mv_ 34 1,po_ 35 (.bin 3 .leq (.t 33) (.t 34))] [0,1,2,6,7,8,35])
 (.cond (.t 35)
 (.skip)
 (.exit 4)))
 Gj
def GL:Af := .seq (.seq (.ops [mv_ 49 7,mv_ 50 6,po_ 51 (.bin 3 .add (.t 49) (.t 50)),mv_ 9 51] [0,1,2,6,7,9])
 (.seq (.ops [mv_ 52 9,mv_ 53 1,po_ 54 (.bin 3 .lss (.t 52) (.t 53))] [0,1,2,6,7,9,54])
 (.cond (.t 54)
 (.ops [mv_ 55 0,mv_ 56 7,mv_ 57 9,mv_ 58 1,mv_ 59 2,so_ 60 (.call 102 [.t 55,.t 56,.t 57,.t 58,.t 59])] [0,1,2,6])
 (.skip))))
 (.ops [mv_ 61 6,po_ 62 (.bin 3 .mul (.t 61) (ci_ 2)),mv_ 6 62] [0,1,2,6])
def Gi:Af := .seq (.block 4 (.loop [0,1,2,6,7,8] Gn))
 GL
def Gz:Af := .block 3 (.seq (.ops [mv_ 31 6,po_ 32 (.bin 3 .mul (ci_ 2) (.t 31)),po_ 7 (.mov (ci_ 0)),mv_ 8 32] [0,1,2,6,7,8])
 Gi)
def Gt:Af := .seq (.seq (.ops [mv_ 28 6,mv_ 29 1,po_ 30 (.bin 3 .lss (.t 28) (.t 29))] [0,1,2,6,30])
 (.cond (.t 30)
 (.skip)
 (.exit 2)))
 Gz
def Dq:Af := .block 2 (.loop [0,1,2,6] Gt)
def GI:Af := .seq (.ops [mv_ 23 0,mv_ 24 7,mv_ 25 1,mv_ 26 2,so_ 27 (.call 101 [.t 23,.t 24,.t 25,.t 26])] [0,1,2,6])
 Dq
def F6:Af := .seq (.block 0 (.loop [0,1,2,6,7,8] Gx))
 GI
def F8:Af := .seq (.ops [mv_ 10 6,po_ 7 (.mov (ci_ 0)),mv_ 8 10] [0,1,2,6,7,8])
 F6
def IB:Af := .seq (.ops [po_ 6 (.mov (ci_ 20))] [0,1,2,6])
 F8
def DX:List VR:=[]
theorem Qs:Tryz.f71.body.bind (trC Tryz.prog Tryz.f71.ntmps)=some (er IB):=by kernel_rfl
theorem Qr:trR Tryz.prog Tryz.f71.results.toList=some DX:=by kernel_rfl
def CU:=Aa Gx.eq_1
def FV:=Aa Gj.eq_1
def Bv:=Aa Gn.eq_1
def CV:=Aa GL.eq_1
def Fq:=Aa Gi.eq_1
def FK:=Aa Gz.eq_1
def CW:=Aa Gt.eq_1
def Fv:=Aa Dq.eq_1
def FW:=Aa GI.eq_1
def EM:=Aa F6.eq_1
def EI:=Aa F8.eq_1
def Ib:=Aa IB.eq_1
theorem Hq {K:TV→Prop} {e:Env} {H:List Ob}:res DX e H K=res [] e H K:=Ad rfl
def Cf:=(aI_ (aI_ (aI_ (aI_ @CU @FV) (aI_ @Bv @CV)) (aI_ (aI_ @Fq @FK) (aI_ @CW @Fv))) (aI_ (aI_ (aI_ @FW @EM) (aI_ @EI @Ib)) @Hq))
def Io:=D7 63 Tryz.func71 Qs Qr rfl
def DV:Af := .seq (.block 3 (.draw 10 [mv_ 37 0,mv_ 38 9,mv_ 39 0,mv_ 40 9,po_ 41 (.bin 3 .sub (.t 40) (ci_ 1)),mv_ 42 0,mv_ 43 9,po_ 44 (.bin 3 .sub (.t 43) (ci_ 1)),po_ 45 (.idxA 24 (.t 42) (.t 44)),po_ 46 (.load true 24 (.t 45)),mv_ 47 0,mv_ 48 9,po_ 49 (.idxA 24 (.t 47) (.t 48)),po_ 50 (.load true 24 (.t 49)),po_ 51 (.idxA 24 (.t 37) (.t 38)),⟨none,.s (.store 24 (.t 51) (.t 46)),none⟩,po_ 52 (.idxA 24 (.t 39) (.t 41)),⟨none,.s (.store 24 (.t 52) (.t 50)),none⟩] [0,1,2,3,8,9]))
 (.ops [mv_ 35 9,po_ 36 (.bin 3 .sub (.t 35) (ci_ 1)),mv_ 9 36] [0,1,2,3,8,9])
def DW:Af := .seq (.seq (.draw 10 [mv_ 18 9,mv_ 19 1,po_ 20 (.bin 3 .gtr (.t 18) (.t 19)),mv_ 21 20,⟨some 22,.p (.mov (.t 3)),some ⟨21,true⟩⟩,⟨some 23,.p (.mov (.t 0)),some ⟨21,true⟩⟩,⟨some 24,.p (.mov (.t 9)),some ⟨21,true⟩⟩,⟨some 25,.p (.idxA 24 (.t 23) (.t 24)),some ⟨21,true⟩⟩,⟨some 26,.p (.load true 24 (.t 25)),some ⟨21,true⟩⟩,⟨some 27,.p (.mov (.t 0)),some ⟨21,true⟩⟩,⟨some 28,.p (.mov (.t 9)),some ⟨21,true⟩⟩,⟨some 29,.p (.bin 3 .sub (.t 28) (ci_ 1)),some ⟨21,true⟩⟩,⟨some 30,.p (.idxA 24 (.t 27) (.t 29)),some ⟨21,true⟩⟩,⟨some 31,.p (.load true 24 (.t 30)),some ⟨21,true⟩⟩,⟨some 32,.s (.callv (.t 22) [.t 26,.t 31]),some ⟨21,true⟩⟩,⟨some 33,.p (.bin 3 .lss (.t 32) (ci_ 0)),some ⟨21,true⟩⟩,po_ 34 (.pick (.t 21) (.t 33) (.c (.bool false)))] [0,1,2,3,8,9,34])
 (.cond (.t 34)
 (.skip)
 (.exit 2)))
 DV
def DN:Af := .block 2 (.loop [0,1,2,3,8,9] DW)
def DK:Af := .ops [mv_ 15 8,po_ 16 (.bin 3 .add (.t 15) (ci_ 1)),mv_ 8 16] [0,1,2,3,8]
def DL:Af := .seq (.block 1 (.seq (.ops [mv_ 17 8,mv_ 9 17] [0,1,2,3,8,9])
 DN))
 DK
def DU:Af := .seq (.seq (.ops [mv_ 12 8,mv_ 13 2,po_ 14 (.bin 3 .lss (.t 12) (.t 13))] [0,1,2,3,8,14])
 (.cond (.t 14)
 (.skip)
 (.exit 0)))
 DL
def DR:Af := .block 0 (.loop [0,1,2,3,8] DU)
def Ep:Af := .seq (.ops [mv_ 10 1,po_ 11 (.bin 3 .add (.t 10) (ci_ 1)),mv_ 8 11] [0,1,2,3,8])
 DR
def Eo:List VR:=[]
theorem Ls:Tryz.f101.body.bind (trC Tryz.prog Tryz.f101.ntmps)=some (er Ep):=by kernel_rfl
theorem Ll:trR Tryz.prog Tryz.f101.results.toList=some Eo:=by kernel_rfl
def JE:=Aa DV.eq_1
def JG:=Aa DW.eq_1
def JF:=Aa DN.eq_1
def JI:=Aa DK.eq_1
def JJ:=Aa DL.eq_1
def JH:=Aa DU.eq_1
def JK:=Aa DR.eq_1
def Kv:=Aa Ep.eq_1
theorem Kw {K:TV→Prop} {e:Env} {H:List Ob}:res Eo e H K=res [] e H K:=Ad rfl
def Aj:=(aI_ (aI_ (aI_ (aI_ @JE @JG) (aI_ @JF @JI)) (aI_ (aI_ @JJ @JH) (aI_ @JK @Kv))) @Kw)
def Ef:=D7 53 Tryz.func101 Ls Ll rfl
def FT:Af := .seq (.draw 5 [mv_ 40 4,mv_ 41 0,mv_ 42 12,po_ 43 (.idxA 24 (.t 41) (.t 42)),po_ 44 (.load true 24 (.t 43)),mv_ 45 0,mv_ 46 1,po_ 47 (.idxA 24 (.t 45) (.t 46)),po_ 48 (.load true 24 (.t 47)),so_ 49 (.callv (.t 40) [.t 44,.t 48]),po_ 50 (.bin 3 .lss (.t 49) (ci_ 0))] [0,1,4,10,11,12,50])
 (.cond (.t 50)
 (.ops [mv_ 51 12,po_ 52 (.bin 3 .add (.t 51) (ci_ 1)),mv_ 10 52] [0,1,4,10,11])
 (.ops [mv_ 53 12,mv_ 11 53] [0,1,4,10,11]))
def FH:Af := .block 1 (.seq (.ops [mv_ 34 10,mv_ 35 11,po_ 36 (.bin 3 .add (.t 34) (.t 35)),po_ 37 (.conv .u64 (.t 36)),po_ 38 (.bin 178 .shr (.t 37) (.c (.int .u64 ((1:Nat):Int)))),po_ 39 (.conv .i64 (.t 38)),mv_ 12 39] [0,1,4,10,11,12])
 FT)
def FN:Af := .seq (.seq (.ops [mv_ 31 10,mv_ 32 11,po_ 33 (.bin 3 .lss (.t 31) (.t 32))] [0,1,4,10,11,33])
 (.cond (.t 33)
 (.skip)
 (.exit 0)))
 FH
def FX:Af := .seq (.block 3 (.draw 10 [mv_ 61 0,mv_ 62 13,mv_ 63 0,mv_ 64 13,po_ 65 (.bin 3 .add (.t 64) (ci_ 1)),mv_ 66 0,mv_ 67 13,po_ 68 (.bin 3 .add (.t 67) (ci_ 1)),po_ 69 (.idxA 24 (.t 66) (.t 68)),po_ 70 (.load true 24 (.t 69)),mv_ 71 0,mv_ 72 13,po_ 73 (.idxA 24 (.t 71) (.t 72)),po_ 74 (.load true 24 (.t 73)),po_ 75 (.idxA 24 (.t 61) (.t 62)),⟨none,.s (.store 24 (.t 75) (.t 70)),none⟩,po_ 76 (.idxA 24 (.t 63) (.t 65)),⟨none,.s (.store 24 (.t 76) (.t 74)),none⟩] [0,10,13]))
 (.ops [mv_ 59 13,po_ 60 (.bin 3 .add (.t 59) (ci_ 1)),mv_ 13 60] [0,10,13])
def FO:Af := .seq (.seq (.ops [mv_ 55 13,mv_ 56 10,po_ 57 (.bin 3 .sub (.t 56) (ci_ 1)),po_ 58 (.bin 3 .lss (.t 55) (.t 57))] [0,10,13,58])
 (.cond (.t 58)
 (.skip)
 (.exit 2)))
 FX
def F5:Af := .block 2 (.loop [0,10,13] FO)
def Fp:Af := .ret
def FY:Af := .seq (.seq (.ops [mv_ 54 1,mv_ 13 54] [0,10,13])
 F5)
 Fp
def FC:Af := .seq (.block 0 (.loop [0,1,4,10,11] FN))
 FY
def EQ:Af := .seq (.ops [mv_ 30 3,mv_ 11 30] [0,1,4,10,11])
 FC
def CB:Af := .seq (.ops [mv_ 29 2,mv_ 10 29] [0,1,3,4,10])
 EQ
def Fg:Af := .cond (.t 28)
 CB
 (.skip)
def EX:Af := .seq (.draw 5 [mv_ 92 4,mv_ 93 0,mv_ 94 2,po_ 95 (.idxA 24 (.t 93) (.t 94)),po_ 96 (.load true 24 (.t 95)),mv_ 97 0,mv_ 98 16,po_ 99 (.idxA 24 (.t 97) (.t 98)),po_ 100 (.load true 24 (.t 99)),so_ 101 (.callv (.t 92) [.t 96,.t 100]),po_ 102 (.bin 3 .lss (.t 101) (ci_ 0)),po_ 103 (.un .not (.t 102))] [0,2,4,14,15,16,103])
 (.cond (.t 103)
 (.ops [mv_ 104 16,po_ 105 (.bin 3 .add (.t 104) (ci_ 1)),mv_ 14 105] [0,2,4,14,15])
 (.ops [mv_ 106 16,mv_ 15 106] [0,2,4,14,15]))
def Ez:Af := .block 5 (.seq (.ops [mv_ 86 14,mv_ 87 15,po_ 88 (.bin 3 .add (.t 86) (.t 87)),po_ 89 (.conv .u64 (.t 88)),po_ 90 (.bin 178 .shr (.t 89) (.c (.int .u64 ((1:Nat):Int)))),po_ 91 (.conv .i64 (.t 90)),mv_ 16 91] [0,2,4,14,15,16])
 EX)
def EH:Af := .seq (.seq (.ops [mv_ 83 14,mv_ 84 15,po_ 85 (.bin 3 .lss (.t 83) (.t 84))] [0,2,4,14,15,85])
 (.cond (.t 85)
 (.skip)
 (.exit 4)))
 Ez
def Fh:Af := .seq (.block 7 (.draw 10 [mv_ 113 0,mv_ 114 17,mv_ 115 0,mv_ 116 17,po_ 117 (.bin 3 .sub (.t 116) (ci_ 1)),mv_ 118 0,mv_ 119 17,po_ 120 (.bin 3 .sub (.t 119) (ci_ 1)),po_ 121 (.idxA 24 (.t 118) (.t 120)),po_ 122 (.load true 24 (.t 121)),mv_ 123 0,mv_ 124 17,po_ 125 (.idxA 24 (.t 123) (.t 124)),po_ 126 (.load true 24 (.t 125)),po_ 127 (.idxA 24 (.t 113) (.t 114)),⟨none,.s (.store 24 (.t 127) (.t 122)),none⟩,po_ 128 (.idxA 24 (.t 115) (.t 117)),⟨none,.s (.store 24 (.t 128) (.t 126)),none⟩] [0,14,17]))
 (.ops [mv_ 111 17,po_ 112 (.bin 3 .sub (.t 111) (ci_ 1)),mv_ 17 112] [0,14,17])
def EO:Af := .seq (.seq (.ops [mv_ 108 17,mv_ 109 14,po_ 110 (.bin 3 .gtr (.t 108) (.t 109))] [0,14,17,110])
 (.cond (.t 110)
 (.skip)
 (.exit 6)))
 Fh
def ER:Af := .block 6 (.loop [0,14,17] EO)
def Ew:Af := .ret
def EZ:Af := .seq (.seq (.ops [mv_ 107 2,mv_ 17 107] [0,14,17])
 ER)
 Ew
def EN:Af := .seq (.block 4 (.loop [0,2,4,14,15] EH))
 EZ
def Fa:Af := .seq (.ops [mv_ 82 2,mv_ 15 82] [0,2,4,14,15])
 EN
def CP:Af := .seq (.ops [mv_ 81 1,mv_ 14 81] [0,2,4,14])
 Fa
def Eu:Af := .cond (.t 80)
 CP
 (.skip)
def EC:Af := .seq (.draw 7 [mv_ 158 4,mv_ 159 0,mv_ 160 22,mv_ 161 23,po_ 162 (.bin 3 .sub (.t 160) (.t 161)),po_ 163 (.idxA 24 (.t 159) (.t 162)),po_ 164 (.load true 24 (.t 163)),mv_ 165 0,mv_ 166 23,po_ 167 (.idxA 24 (.t 165) (.t 166)),po_ 168 (.load true 24 (.t 167)),so_ 169 (.callv (.t 158) [.t 164,.t 168]),po_ 170 (.bin 3 .lss (.t 169) (ci_ 0)),po_ 171 (.un .not (.t 170))] [0,1,2,3,4,18,19,20,21,22,23,171])
 (.cond (.t 171)
 (.ops [mv_ 172 23,po_ 173 (.bin 3 .add (.t 172) (ci_ 1)),mv_ 20 173] [0,1,2,3,4,18,19,20,21,22])
 (.ops [mv_ 174 23,mv_ 21 174] [0,1,2,3,4,18,19,20,21,22]))
def EW:Af := .block 9 (.seq (.ops [mv_ 152 20,mv_ 153 21,po_ 154 (.bin 3 .add (.t 152) (.t 153)),po_ 155 (.conv .u64 (.t 154)),po_ 156 (.bin 178 .shr (.t 155) (.c (.int .u64 ((1:Nat):Int)))),po_ 157 (.conv .i64 (.t 156)),mv_ 23 157] [0,1,2,3,4,18,19,20,21,22,23])
 EC)
def EU:Af := .seq (.seq (.ops [mv_ 149 20,mv_ 150 21,po_ 151 (.bin 3 .lss (.t 149) (.t 150))] [0,1,2,3,4,18,19,20,21,22,151])
 (.cond (.t 151)
 (.skip)
 (.exit 8)))
 EW
def CO:Af := .seq (.ops [mv_ 206 18,mv_ 207 24,po_ 208 (.bin 3 .lss (.t 206) (.t 207)),mv_ 209 208,⟨some 210,.p (.mov (.t 24)),some ⟨209,true⟩⟩,⟨some 211,.p (.mov (.t 3)),some ⟨209,true⟩⟩,⟨some 212,.p (.bin 3 .lss (.t 210) (.t 211)),some ⟨209,true⟩⟩,po_ 213 (.pick (.t 209) (.t 212) (.c (.bool false)))] [0,3,4,18,24,213])
 (.cond (.t 213)
 (.ops [mv_ 214 0,mv_ 215 18,mv_ 216 24,mv_ 217 3,mv_ 218 4,so_ 219 (.call 102 [.t 214,.t 215,.t 216,.t 217,.t 218])] [])
 (.skip))
def Cm:Af := .seq (.seq (.ops [mv_ 192 1,mv_ 193 20,po_ 194 (.bin 3 .lss (.t 192) (.t 193)),mv_ 195 194,⟨some 196,.p (.mov (.t 20)),some ⟨195,true⟩⟩,⟨some 197,.p (.mov (.t 18)),some ⟨195,true⟩⟩,⟨some 198,.p (.bin 3 .lss (.t 196) (.t 197)),some ⟨195,true⟩⟩,po_ 199 (.pick (.t 195) (.t 198) (.c (.bool false)))] [0,1,3,4,18,20,24,199])
 (.cond (.t 199)
 (.ops [mv_ 200 0,mv_ 201 1,mv_ 202 20,mv_ 203 18,mv_ 204 4,so_ 205 (.call 102 [.t 200,.t 201,.t 202,.t 203,.t 204])] [0,3,4,18,24])
 (.skip)))
 CO
def EK:Af := .seq (.seq (.ops [mv_ 178 20,mv_ 179 2,po_ 180 (.bin 3 .lss (.t 178) (.t 179)),mv_ 181 180,⟨some 182,.p (.mov (.t 2)),some ⟨181,true⟩⟩,⟨some 183,.p (.mov (.t 24)),some ⟨181,true⟩⟩,⟨some 184,.p (.bin 3 .lss (.t 182) (.t 183)),some ⟨181,true⟩⟩,po_ 185 (.pick (.t 181) (.t 184) (.c (.bool false)))] [0,1,2,3,4,18,20,24,185])
 (.cond (.t 185)
 (.ops [mv_ 186 0,mv_ 187 20,mv_ 188 2,mv_ 189 24,mv_ 190 4,so_ 191 (.call 120 [.t 186,.t 187,.t 188,.t 189,.t 190])] [0,1,3,4,18,20,24])
 (.skip)))
 Cm
def CE:Af := .seq (.ops [mv_ 175 19,mv_ 176 20,po_ 177 (.bin 3 .sub (.t 175) (.t 176)),mv_ 24 177] [0,1,2,3,4,18,20,24])
 EK
def EJ:Af := .seq (.block 8 (.loop [0,1,2,3,4,18,19,20,21,22] EU))
 CE
def CJ:Af := .seq (.ops [mv_ 147 19,po_ 148 (.bin 3 .sub (.t 147) (ci_ 1)),mv_ 22 148] [0,1,2,3,4,18,19,20,21,22])
 EJ
def EE:Af := .seq (.seq (.ops [mv_ 138 2,mv_ 139 18,po_ 140 (.bin 3 .gtr (.t 138) (.t 139))] [0,1,2,3,4,18,19,140])
 (.cond (.t 140)
 (.seq (.ops [mv_ 141 19,mv_ 142 3,po_ 143 (.bin 3 .sub (.t 141) (.t 142)),mv_ 20 143] [0,1,2,3,4,18,19,20])
  (.ops [mv_ 144 18,mv_ 21 144] [0,1,2,3,4,18,19,20,21]))
 (.seq (.ops [mv_ 145 1,mv_ 20 145] [0,1,2,3,4,18,19,20])
  (.ops [mv_ 146 2,mv_ 21 146] [0,1,2,3,4,18,19,20,21]))))
 CJ
def ES:Af := .seq (.ops [po_ 20 (.mov (ci_ 0)),po_ 21 (.mov (ci_ 0))] [0,1,2,3,4,18,19])
 EE
def EY:Af := .seq (.ops [mv_ 135 18,mv_ 136 2,po_ 137 (.bin 3 .add (.t 135) (.t 136)),mv_ 19 137] [0,1,2,3,4,18,19])
 ES
def Fe:Af := .seq (.ops [mv_ 129 1,mv_ 130 3,po_ 131 (.bin 3 .add (.t 129) (.t 130)),po_ 132 (.conv .u64 (.t 131)),po_ 133 (.bin 178 .shr (.t 132) (.c (.int .u64 ((1:Nat):Int)))),po_ 134 (.conv .i64 (.t 133)),mv_ 18 134] [0,1,2,3,4,18])
 EY
def Fj:Af := .seq (.seq (.ops [mv_ 77 3,mv_ 78 2,po_ 79 (.bin 3 .sub (.t 77) (.t 78)),po_ 80 (.bin 3 .eql (.t 79) (ci_ 1))] [0,1,2,3,4,80])
 Eu)
 Fe
def Ic:Af := .seq (.seq (.ops [mv_ 25 2,mv_ 26 1,po_ 27 (.bin 3 .sub (.t 25) (.t 26)),po_ 28 (.bin 3 .eql (.t 27) (ci_ 1))] [0,1,2,3,4,28])
 Fg)
 Fj
def AP:List VR:=[]
theorem OV:Tryz.f102.body.bind (trC Tryz.prog Tryz.f102.ntmps)=some (er Ic):=by kernel_rfl
theorem OD:trR Tryz.prog Tryz.f102.results.toList=some AP:=by kernel_rfl
def LJ:=Aa FT.eq_1
def LM:=Aa FH.eq_1
def Es:=Aa FN.eq_1
def Lp:=Aa FX.eq_1
def Et:=Aa FO.eq_1
def Lr:=Aa F5.eq_1
def LG:=Aa Fp.eq_1
def Lj:=Aa FY.eq_1
def Lu:=Aa FC.eq_1
def Lc:=Aa EQ.eq_1
def KH:=Aa CB.eq_1
def A8:=Aa Fg.eq_1
def KQ:=Aa EX.eq_1
def La:=Aa Ez.eq_1
def Ee:=Aa EH.eq_1
def KR:=Aa Fh.eq_1
def Ea:=Aa EO.eq_1
def KW:=Aa ER.eq_1
def KO:=Aa Ew.eq_1
def Ld:=Aa EZ.eq_1
def KI:=Aa EN.eq_1
def KT:=Aa Fa.eq_1
def KX:=Aa CP.eq_1
def BX:=Aa Eu.eq_1
def KJ:=Aa EC.eq_1
def KZ:=Aa EW.eq_1
def D9:=Aa EU.eq_1
def Cb:=Aa CO.eq_1
def BU:=Aa Cm.eq_1
def BV:=Aa EK.eq_1
def BZ:=Aa CE.eq_1
def Lh:=Aa EJ.eq_1
def KL:=Aa CJ.eq_1
def Eb:=Aa EE.eq_1
def Ec:=Aa ES.eq_1
def Eg:=Aa EY.eq_1
def Ed:=Aa Fe.eq_1
def Cc:=Aa Fj.eq_1
def BC:=Aa Ic.eq_1
theorem AV {K:TV→Prop} {e:Env} {H:List Ob}:res AP e H K=res [] e H K:=Ad rfl
def NM:=D7 220 Tryz.func102 OV OD rfl
def GY:Af := .seq (.ops [mv_ 24 0,mv_ 25 2,mv_ 26 10,po_ 27 (.bin 3 .sub (.t 25) (.t 26)),mv_ 28 2,mv_ 29 11,mv_ 30 4,so_ 31 (.call 150 [.t 24,.t 27,.t 28,.t 29,.t 30])] [0,2,4,10,11])
 (.ops [mv_ 32 10,mv_ 33 11,po_ 34 (.bin 3 .sub (.t 32) (.t 33)),mv_ 10 34] [0,2,4,10,11])
def GM:Af := .seq (.ops [mv_ 35 0,mv_ 36 2,mv_ 37 10,po_ 38 (.bin 3 .sub (.t 36) (.t 37)),mv_ 39 2,mv_ 40 11,po_ 41 (.bin 3 .add (.t 39) (.t 40)),mv_ 42 10,po_ 43 (.bin 3 .sub (.t 41) (.t 42)),mv_ 44 10,mv_ 45 4,so_ 46 (.call 150 [.t 35,.t 38,.t 43,.t 44,.t 45])] [0,2,4,10,11])
 (.ops [mv_ 47 11,mv_ 48 10,po_ 49 (.bin 3 .sub (.t 47) (.t 48)),mv_ 11 49] [0,2,4,10,11])
def GN:Af := .cond (.t 23)
 GY
 GM
def G9:Af := .block 1 (.seq (.ops [mv_ 21 10,mv_ 22 11,po_ 23 (.bin 3 .gtr (.t 21) (.t 22))] [0,2,4,10,11,23])
 GN)
def Ha:Af := .seq (.seq (.ops [mv_ 18 10,mv_ 19 11,po_ 20 (.bin 3 .neq (.t 18) (.t 19))] [0,2,4,10,11,20])
 (.cond (.t 20)
 (.skip)
 (.exit 0)))
 G9
def GR:Af := .ops [mv_ 50 0,mv_ 51 2,mv_ 52 10,po_ 53 (.bin 3 .sub (.t 51) (.t 52)),mv_ 54 2,mv_ 55 10,mv_ 56 4,so_ 57 (.call 150 [.t 50,.t 53,.t 54,.t 55,.t 56])] []
def Gl:Af := .seq (.block 0 (.loop [0,2,4,10,11] Ha))
 GR
def GZ:Af := .seq (.ops [mv_ 15 3,mv_ 16 2,po_ 17 (.bin 3 .sub (.t 15) (.t 16)),mv_ 11 17] [0,2,4,10,11])
 Gl
def IV:Af := .seq (.ops [mv_ 12 2,mv_ 13 1,po_ 14 (.bin 3 .sub (.t 12) (.t 13)),mv_ 10 14] [0,2,3,4,10])
 GZ
def IU:List VR:=[]
theorem Qp:Tryz.f120.body.bind (trC Tryz.prog Tryz.f120.ntmps)=some (er IV):=by kernel_rfl
theorem Qv:trR Tryz.prog Tryz.f120.results.toList=some IU:=by kernel_rfl
def MV:=Aa GY.eq_1
def MP:=Aa GM.eq_1
def MO:=Aa GN.eq_1
def MF:=Aa G9.eq_1
def Mc:=Aa Ha.eq_1
def Me:=Aa GR.eq_1
def MN:=Aa Gl.eq_1
def Md:=Aa GZ.eq_1
def Oy:=Aa IV.eq_1
theorem Ol {K:TV→Prop} {e:Env} {H:List Ob}:res IU e H K=res [] e H K:=Ad rfl
def Bg:=(aI_ (aI_ (aI_ (aI_ @MV @MP) (aI_ @MO @MF)) (aI_ (aI_ @Mc @Me) (aI_ @MN @Md))) (aI_ @Oy @Ol))
def PH:=D7 58 Tryz.func120 Qp Qv rfl
def E5:Af := .seq (.block 1 (.draw 15 [mv_ 16 0,mv_ 17 1,mv_ 18 10,po_ 19 (.bin 3 .add (.t 17) (.t 18)),mv_ 20 0,mv_ 21 2,mv_ 22 10,po_ 23 (.bin 3 .add (.t 21) (.t 22)),mv_ 24 0,mv_ 25 2,mv_ 26 10,po_ 27 (.bin 3 .add (.t 25) (.t 26)),po_ 28 (.idxA 24 (.t 24) (.t 27)),po_ 29 (.load true 24 (.t 28)),mv_ 30 0,mv_ 31 1,mv_ 32 10,po_ 33 (.bin 3 .add (.t 31) (.t 32)),po_ 34 (.idxA 24 (.t 30) (.t 33)),po_ 35 (.load true 24 (.t 34)),po_ 36 (.idxA 24 (.t 16) (.t 19)),⟨none,.s (.store 24 (.t 36) (.t 29)),none⟩,po_ 37 (.idxA 24 (.t 20) (.t 23)),⟨none,.s (.store 24 (.t 37) (.t 35)),none⟩] [0,1,2,3,10]))
 (.ops [mv_ 14 10,po_ 15 (.bin 3 .add (.t 14) (ci_ 1)),mv_ 10 15] [0,1,2,3,10])
def EG:Af := .seq (.seq (.ops [mv_ 11 10,mv_ 12 3,po_ 13 (.bin 3 .lss (.t 11) (.t 12))] [0,1,2,3,10,13])
 (.cond (.t 13)
 (.skip)
 (.exit 0)))
 E5
def Ff:Af := .block 0 (.loop [0,1,2,3,10] EG)
def Gv:Af := .seq (.ops [po_ 10 (.mov (ci_ 0))] [0,1,2,3,10])
 Ff
def G8:List VR:=[]
theorem NV:Tryz.f150.body.bind (trC Tryz.prog Tryz.f150.ntmps)=some (er Gv):=by kernel_rfl
theorem NU:trR Tryz.prog Tryz.f150.results.toList=some G8:=by kernel_rfl
def KU:=Aa E5.eq_1
def KG:=Aa EG.eq_1
def KY:=Aa Ff.eq_1
def MQ:=Aa Gv.eq_1
theorem L9 {K:TV→Prop} {e:Env} {H:List Ob}:res G8 e H K=res [] e H K:=Ad rfl
def Dk:=(aI_ (aI_ (aI_ @KU @KG) (aI_ @KY @MQ)) @L9)
def Nr:=D7 38 Tryz.func150 NV NU rfl
def AaP:Af := .seq (.draw 9 [po_ 5 (.fieldA 0 0 (.t 2)),po_ 6 (.load false 1 (.t 5)),po_ 7 (.fieldA 0 0 (.t 3)),po_ 8 (.load false 1 (.t 7)),so_ 9 (.call 73 [.t 6,.t 8]),po_ 10 (.fieldA 4 23 (.t 2)),po_ 11 (.load false 1 (.t 10)),po_ 12 (.fieldA 4 23 (.t 3)),po_ 13 (.load false 1 (.t 12)),so_ 14 (.call 74 [.t 11,.t 13]),⟨some 15,.s (.bslice 1 2 (.val (.int .i64 ((0:Nat):Int))) [⟨0,.t 9⟩,⟨1,.t 14⟩]),none⟩,so_ 16 (.call 72 [.t 15]),mv_ 4 16] [4])
 (.ret)
def Agt:Af := .seq (.ops [so_ 2 (.box (.t 0)),so_ 3 (.box (.t 1)),po_ 4 (.mov (ci_ 0))] [2,3])
 AaP
def AhD:List VR:=[.tmp 4]
theorem Amg:Tryz.f44.body.bind (trC Tryz.prog Tryz.f44.ntmps)=some (er Agt):=by kernel_rfl
theorem Amn:trR Tryz.prog Tryz.f44.results.toList=some AhD:=by kernel_rfl
def AgP:=Aa AaP.eq_1
def AkV:=Aa Agt.eq_1
theorem Aj5 {K:TV→Prop} {e:Env} {H:List Ob}:res AhD e H K=res [.tmp 4] e H K:=Ad rfl
def AmI:=(aI_ (aI_ @AgP @AkV) @Aj5)
def Ak2:=D7 17 Tryz.func44 Amg Amn rfl
def Ad3:Af := .seq (.ops [po_ 2 (.mov (.c (.slice none 0 0)))] [0])
 (.seq (.ops [mv_ 3 0,so_ 4 (.call 42 [.t 3]),mv_ 0 4] [0])
 (.seq (.ops [mv_ 5 0,so_ 6 (.call 43 [.t 5,.c (.func (.func 44) #[] #[])])] [0])
 (.seq (.ops [mv_ 7 0,mv_ 2 7] [2])
 (.ret))))
def AdZ:List VR:=[.tmp 2]
theorem Alj:Tryz.f23.body.bind (trC Tryz.prog Tryz.f23.ntmps)=some (er Ad3):=by kernel_rfl
theorem Alv:trR Tryz.prog Tryz.f23.results.toList=some AdZ:=by kernel_rfl
def Ajb:=Aa Ad3.eq_1
theorem Ajs {K:TV→Prop} {e:Env} {H:List Ob}:res AdZ e H K=res [.tmp 2] e H K:=Ad rfl
def Xv:=(aI_ @Ajb @Ajs)
def Akq:=D7 8 Tryz.func23 Alj Alv rfl
def Ie:Af := .seq (.ops [po_ 2 (.mov (.c (.slice none 0 0)))] [0])
 (.seq (.seq (.ops [mv_ 3 0,so_ 4 (.eqS (.t 3) false)] [0,4])
 (.cond (.t 4)
 (.seq (.ops [po_ 2 (.mov (.c (.slice none 0 0)))] [2])
  (.ret))
 (.skip)))
 (.seq (.ops [so_ 5 (.bslice 24 0 (.agg [.val (.string (str [])),.val (.int .i64 ((0:Nat):Int)),.arr 20 1 [.val (.int .u8 ((0:Nat):Int)),.val (.int .u8 ((0:Nat):Int)),.val (.int .u8 ((0:Nat):Int)),.val (.int .u8 ((0:Nat):Int)),.val (.int .u8 ((0:Nat):Int)),.val (.int .u8 ((0:Nat):Int)),.val (.int .u8 ((0:Nat):Int)),.val (.int .u8 ((0:Nat):Int)),.val (.int .u8 ((0:Nat):Int)),.val (.int .u8 ((0:Nat):Int)),.val (.int .u8 ((0:Nat):Int)),.val (.int .u8 ((0:Nat):Int)),.val (.int .u8 ((0:Nat):Int)),.val (.int .u8 ((0:Nat):Int)),.val (.int .u8 ((0:Nat):Int)),.val (.int .u8 ((0:Nat):Int)),.val (.int .u8 ((0:Nat):Int)),.val (.int .u8 ((0:Nat):Int)),.val (.int .u8 ((0:Nat):Int)),.val (.int .u8 ((0:Nat):Int))],.val (.int .i64 ((0:Nat):Int)),.val (.int .i64 ((0:Nat):Int))]) []),mv_ 6 0,so_ 7 (.app 24 64 75 (.t 5) (.t 6)),mv_ 2 7] [2])
 (.ret)))
def H8:List VR:=[.tmp 2]
theorem Ou:Tryz.f42.body.bind (trC Tryz.prog Tryz.f42.ntmps)=some (er Ie):=by kernel_rfl
theorem Om:trR Tryz.prog Tryz.f42.results.toList=some H8:=by kernel_rfl
def Ny:=Aa Ie.eq_1
theorem Nq {K:TV→Prop} {e:Env} {H:List Ob}:res H8 e H K=res [.tmp 2] e H K:=Ad rfl
def BL:=(aI_ @Ny @Nq)
def NS:=D7 8 Tryz.func42 Ou Om rfl
def PT:Af := .seq (.seq (.ops [mv_ 11 5] [0,1,6,11])
 (.cond (.t 11)
 (.seq (.seq (.ops [mv_ 12 6] [12])
  (.cond (.t 12)
  (.seq (.ops [po_ 4 (.mov (ci_ 0))] [4])
   (.ret))
  (.skip)))
  (.seq (.ops [po_ 4 (.mov (.c (.int .i64 (-1))))] [4])
  (.ret)))
 (.skip)))
 (.seq (.seq (.ops [mv_ 13 6] [0,1,13])
 (.cond (.t 13)
 (.seq (.ops [po_ 4 (.mov (ci_ 1))] [4])
  (.ret))
 (.skip)))
 (.seq (.seq (.ops [mv_ 14 0,mv_ 15 1,po_ 16 (.bin 9 .lss (.t 14) (.t 15))] [0,1,16])
 (.cond (.t 16)
 (.seq (.ops [po_ 4 (.mov (.c (.int .i64 (-1))))] [4])
  (.ret))
 (.skip)))
 (.seq (.seq (.ops [mv_ 17 0,mv_ 18 1,po_ 19 (.bin 9 .gtr (.t 17) (.t 18))] [19])
 (.cond (.t 19)
 (.seq (.ops [po_ 4 (.mov (ci_ 1))] [4])
  (.ret))
 (.skip)))
 (.seq (.ops [po_ 4 (.mov (ci_ 0))] [4])
 (.ret)))))
def Qm:Af := .seq (.ops [mv_ 9 1,so_ 10 (.call 103 [.t 9]),mv_ 6 10] [0,1,5,6])
 PT
def PG:Af := .seq (.ops [mv_ 7 0,so_ 8 (.call 103 [.t 7]),mv_ 5 8] [0,1,5])
 Qm
def Uc:Af := .seq (.ops [po_ 4 (.mov (ci_ 0))] [0,1])
 PG
def Uf:List VR:=[.tmp 4]
theorem AdD:Tryz.f73.body.bind (trC Tryz.prog Tryz.f73.ntmps)=some (er Uc):=by kernel_rfl
theorem AdW:trR Tryz.prog Tryz.f73.results.toList=some Uf:=by kernel_rfl
def XR:=Aa PT.eq_1
def XI:=Aa Qm.eq_1
def Xn:=Aa PG.eq_1
def AbO:=Aa Uc.eq_1
theorem AbF {K:TV→Prop} {e:Env} {H:List Ob}:res Uf e H K=res [.tmp 4] e H K:=Ad rfl
def FP:=(aI_ (aI_ (aI_ @XR @XI) (aI_ @Xn @AbO)) @AbF)
def Ab1:=D7 20 Tryz.func73 AdD AdW rfl
def Wl:Af := .seq (.ops [po_ 2 (.mov (.c (.bool false)))] [0])
 (.seq (.ops [mv_ 3 0,mv_ 4 0,po_ 5 (.bin 9 .neq (.t 3) (.t 4)),mv_ 2 5] [2])
 (.ret))
def Wv:List VR:=[.tmp 2]
theorem AgW:Tryz.f103.body.bind (trC Tryz.prog Tryz.f103.ntmps)=some (er Wl):=by kernel_rfl
theorem Agl:trR Tryz.prog Tryz.f103.results.toList=some Wv:=by kernel_rfl
def AdN:=Aa Wl.eq_1
theorem AdS {K:TV→Prop} {e:Env} {H:List Ob}:res Wv e H K=res [.tmp 2] e H K:=Ad rfl
def AgZ:=(aI_ @AdN @AdS)
def AeR:=D7 6 Tryz.func103 AgW Agl rfl
def Acv:Af := .seq (.ops [po_ 9 (.bin 3 .lss (.t 8) (.t 7))] [3,6,7,8,9])
 (.seq (.cond (.t 9)
 (.skip)
 (.exit 0))
 (.seq (.block 1 (.seq (.ops [po_ 10 (.idxA 1 (.t 6) (.t 8)),po_ 11 (.load false 1 (.t 10)),mv_ 5 11] [3,5,6,7,8])
 (.seq (.ops [mv_ 12 5,mv_ 13 3,po_ 14 (.bin 3 .neq (.t 12) (.t 13))] [3,5,6,7,8,14])
 (.cond (.t 14)
 (.seq (.ops [mv_ 15 5,mv_ 2 15] [2])
  (.ret))
 (.skip)))))
 (.ops [po_ 16 (.bin 3 .add (.t 8) (ci_ 1)),mv_ 8 16] [3,6,7,8])))
def Adf:Af := .seq (.ops [mv_ 17 3,mv_ 2 17] [2])
 (.ret)
def Acr:Af := .seq (.seq (.ops [mv_ 6 0,po_ 7 (.lenV (.t 6)),po_ 8 (.mov (ci_ 0))] [3,6,7,8])
 (.block 0 (.loop [3,6,7,8] Acv)))
 Adf
def AbY:Af := .seq (.ops [po_ 3 (.mov (ci_ 0))] [0,3])
 Acr
def AiY:Af := .seq (.ops [po_ 2 (.mov (ci_ 0))] [0])
 AbY
def AiH:List VR:=[.tmp 2]
theorem AoH:Tryz.f72.body.bind (trC Tryz.prog Tryz.f72.ntmps)=some (er AiY):=by kernel_rfl
theorem AoC:trR Tryz.prog Tryz.f72.results.toList=some AiH:=by kernel_rfl
def AhJ:=Aa Acv.eq_1
def Aie:=Aa Adf.eq_1
def Aij:=Aa Acr.eq_1
def Ah5:=Aa AbY.eq_1
def Ak1:=Aa AiY.eq_1
theorem Alm {K:TV→Prop} {e:Env} {H:List Ob}:res AiH e H K=res [.tmp 2] e H K:=Ad rfl
def NW:=(aI_ (aI_ (aI_ @AhJ @Aie) (aI_ @Aij @Ah5)) (aI_ @Ak1 @Alm))
def Amv:=D7 18 Tryz.func72 AoH AoC rfl
def Ud:Af := .seq (.seq (.ops [mv_ 11 5] [0,1,6,11])
 (.cond (.t 11)
 (.seq (.seq (.ops [mv_ 12 6] [12])
  (.cond (.t 12)
  (.seq (.ops [po_ 4 (.mov (ci_ 0))] [4])
   (.ret))
  (.skip)))
  (.seq (.ops [po_ 4 (.mov (.c (.int .i64 (-1))))] [4])
  (.ret)))
 (.skip)))
 (.seq (.seq (.ops [mv_ 13 6] [0,1,13])
 (.cond (.t 13)
 (.seq (.ops [po_ 4 (.mov (ci_ 1))] [4])
  (.ret))
 (.skip)))
 (.seq (.seq (.ops [mv_ 14 0,mv_ 15 1,po_ 16 (.bin 3 .lss (.t 14) (.t 15))] [0,1,16])
 (.cond (.t 16)
 (.seq (.ops [po_ 4 (.mov (.c (.int .i64 (-1))))] [4])
  (.ret))
 (.skip)))
 (.seq (.seq (.ops [mv_ 17 0,mv_ 18 1,po_ 19 (.bin 3 .gtr (.t 17) (.t 18))] [19])
 (.cond (.t 19)
 (.seq (.ops [po_ 4 (.mov (ci_ 1))] [4])
  (.ret))
 (.skip)))
 (.seq (.ops [po_ 4 (.mov (ci_ 0))] [4])
 (.ret)))))
def Uy:Af := .seq (.ops [mv_ 9 1,so_ 10 (.call 104 [.t 9]),mv_ 6 10] [0,1,5,6])
 Ud
def UK:Af := .seq (.ops [mv_ 7 0,so_ 8 (.call 104 [.t 7]),mv_ 5 8] [0,1,5])
 Uy
def Yg:Af := .seq (.ops [po_ 4 (.mov (ci_ 0))] [0,1])
 UK
def ZO:List VR:=[.tmp 4]
theorem AhW:Tryz.f74.body.bind (trC Tryz.prog Tryz.f74.ntmps)=some (er Yg):=by kernel_rfl
theorem AhP:trR Tryz.prog Tryz.f74.results.toList=some ZO:=by kernel_rfl
def AbL:=Aa Ud.eq_1
def AbH:=Aa Uy.eq_1
def Aby:=Aa UK.eq_1
def AeB:=Aa Yg.eq_1
theorem AeV {K:TV→Prop} {e:Env} {H:List Ob}:res ZO e H K=res [.tmp 4] e H K:=Ad rfl
def Jz:=(aI_ (aI_ (aI_ @AbL @AbH) (aI_ @Aby @AeB)) @AeV)
def AgB:=D7 20 Tryz.func74 AhW AhP rfl
def Ach:Af := .seq (.ops [po_ 2 (.mov (.c (.bool false)))] [0])
 (.seq (.ops [mv_ 3 0,mv_ 4 0,po_ 5 (.bin 3 .neq (.t 3) (.t 4)),mv_ 2 5] [2])
 (.ret))
def AcV:List VR:=[.tmp 2]
theorem Akr:Tryz.f104.body.bind (trC Tryz.prog Tryz.f104.ntmps)=some (er Ach):=by kernel_rfl
theorem AkC:trR Tryz.prog Tryz.f104.results.toList=some AcV:=by kernel_rfl
def Aix:=Aa Ach.eq_1
theorem Ail {K:TV→Prop} {e:Env} {H:List Ob}:res AcV e H K=res [.tmp 2] e H K:=Ad rfl
def Akz:=(aI_ @Aix @Ail)
def Ai3:=D7 6 Tryz.func104 Akr AkC rfl
def Aay:Af := .seq (.seq (.draw 35 [mv_ 13 5,mv_ 14 3,po_ 15 (.lenV (.t 14)),po_ 16 (.bin 3 .lss (.t 13) (.t 15)),mv_ 17 16,⟨some 18,.p (.mov (.t 3)),some ⟨17,true⟩⟩,⟨some 19,.p (.mov (.t 5)),some ⟨17,true⟩⟩,⟨some 20,.p (.idxA 24 (.t 18) (.t 19)),some ⟨17,true⟩⟩,⟨some 21,.p (.fieldA 0 0 (.t 20)),some ⟨17,true⟩⟩,⟨some 22,.p (.load false 1 (.t 21)),some ⟨17,true⟩⟩,⟨some 23,.p (.mov (.t 0)),some ⟨17,true⟩⟩,⟨some 24,.p (.mov (.t 4)),some ⟨17,true⟩⟩,⟨some 25,.p (.idxA 24 (.t 23) (.t 24)),some ⟨17,true⟩⟩,⟨some 26,.p (.fieldA 0 0 (.t 25)),some ⟨17,true⟩⟩,⟨some 27,.p (.load false 1 (.t 26)),some ⟨17,true⟩⟩,⟨some 28,.p (.bin 9 .lss (.t 22) (.t 27)),some ⟨17,true⟩⟩,⟨some 29,.p (.mov (.t 28)),some ⟨17,true⟩⟩,⟨some 30,.p (.mov (.t 3)),some ⟨29,false⟩⟩,⟨some 31,.p (.mov (.t 5)),some ⟨29,false⟩⟩,⟨some 32,.p (.idxA 24 (.t 30) (.t 31)),some ⟨29,false⟩⟩,⟨some 33,.p (.fieldA 0 0 (.t 32)),some ⟨29,false⟩⟩,⟨some 34,.p (.load false 1 (.t 33)),some ⟨29,false⟩⟩,⟨some 35,.p (.mov (.t 0)),some ⟨29,false⟩⟩,⟨some 36,.p (.mov (.t 4)),some ⟨29,false⟩⟩,⟨some 37,.p (.idxA 24 (.t 35) (.t 36)),some ⟨29,false⟩⟩,⟨some 38,.p (.fieldA 0 0 (.t 37)),some ⟨29,false⟩⟩,⟨some 39,.p (.load false 1 (.t 38)),some ⟨29,false⟩⟩,⟨some 40,.p (.bin 9 .eql (.t 34) (.t 39)),some ⟨29,false⟩⟩,⟨some 41,.p (.mov (.t 40)),some ⟨29,false⟩⟩,⟨some 42,.p (.mov (.t 3)),some ⟨41,true⟩⟩,⟨some 43,.p (.mov (.t 5)),some ⟨41,true⟩⟩,⟨some 44,.p (.idxA 24 (.t 42) (.t 43)),some ⟨41,true⟩⟩,⟨some 45,.p (.fieldA 4 23 (.t 44)),some ⟨41,true⟩⟩,⟨some 46,.p (.load false 1 (.t 45)),some ⟨41,true⟩⟩,⟨some 47,.p (.mov (.t 0)),some ⟨41,true⟩⟩,⟨some 48,.p (.mov (.t 4)),some ⟨41,true⟩⟩,⟨some 49,.p (.idxA 24 (.t 47) (.t 48)),some ⟨41,true⟩⟩,⟨some 50,.p (.fieldA 4 23 (.t 49)),some ⟨41,true⟩⟩,⟨some 51,.p (.load false 1 (.t 50)),some ⟨41,true⟩⟩,⟨some 52,.p (.bin 3 .leq (.t 46) (.t 51)),some ⟨41,true⟩⟩,⟨some 53,.p (.pick (.t 41) (.t 52) (.c (.bool false))),some ⟨29,false⟩⟩,⟨some 54,.p (.pick (.t 29) (.c (.bool true)) (.t 53)),some ⟨17,true⟩⟩,po_ 55 (.pick (.t 17) (.t 54) (.c (.bool false)))] [0,3,4,5,55])
 (.cond (.t 55)
 (.skip)
 (.exit 2)))
 (.block 3 (.ops [mv_ 56 5,po_ 57 (.bin 3 .add (.t 56) (ci_ 1)),mv_ 5 57] [0,3,4,5]))
def AaA:Af := .seq (.ops [mv_ 63 6,mv_ 64 0,mv_ 65 4,po_ 66 (.idxA 24 (.t 64) (.t 65)),po_ 67 (.load true 24 (.t 66)),⟨some 68,.s (.bslice 24 1 (.agg [.val (.string (str [])),.val (.int .i64 ((0:Nat):Int)),.arr 20 1 [.val (.int .u8 ((0:Nat):Int)),.val (.int .u8 ((0:Nat):Int)),.val (.int .u8 ((0:Nat):Int)),.val (.int .u8 ((0:Nat):Int)),.val (.int .u8 ((0:Nat):Int)),.val (.int .u8 ((0:Nat):Int)),.val (.int .u8 ((0:Nat):Int)),.val (.int .u8 ((0:Nat):Int)),.val (.int .u8 ((0:Nat):Int)),.val (.int .u8 ((0:Nat):Int)),.val (.int .u8 ((0:Nat):Int)),.val (.int .u8 ((0:Nat):Int)),.val (.int .u8 ((0:Nat):Int)),.val (.int .u8 ((0:Nat):Int)),.val (.int .u8 ((0:Nat):Int)),.val (.int .u8 ((0:Nat):Int)),.val (.int .u8 ((0:Nat):Int)),.val (.int .u8 ((0:Nat):Int)),.val (.int .u8 ((0:Nat):Int)),.val (.int .u8 ((0:Nat):Int))],.val (.int .i64 ((0:Nat):Int)),.val (.int .i64 ((0:Nat):Int))]) [⟨0,.t 67⟩]),none⟩,so_ 69 (.app 24 64 58 (.t 63) (.t 68)),mv_ 6 69] [0,3,4,5,6])
 (.ops [mv_ 70 6,mv_ 71 3,mv_ 72 5,po_ 73 (.slV 24 (.t 71) (some (.t 72)) none),so_ 74 (.app 24 64 58 (.t 70) (.t 73)),mv_ 3 74] [0,3,4])
def AaL:Af := .seq (.ops [mv_ 58 6,mv_ 59 3,mv_ 60 5,po_ 61 (.slV 24 (.t 59) none (some (.t 60))),so_ 62 (.app 24 64 58 (.t 58) (.t 61)),mv_ 6 62] [0,3,4,5,6])
 AaA
def NG:Af := .seq (.ops [po_ 6 (.mov (.c (.slice none 0 0)))] [0,3,4,5,6])
 AaL
def Aa5:Af := .seq (.block 2 (.own 3 24 (.loop [0,3,4,5] Aay)))
 NG
def TF:Af := .ops [mv_ 11 4,po_ 12 (.bin 3 .add (.t 11) (ci_ 1)),mv_ 4 12] [0,3,4]
def AaW:Af := .seq (.block 1 (.seq (.ops [po_ 5 (.mov (ci_ 0))] [0,3,4,5])
 Aa5))
 TF
def Abj:Af := .seq (.seq (.ops [mv_ 7 4,mv_ 8 0,po_ 9 (.lenV (.t 8)),po_ 10 (.bin 3 .lss (.t 7) (.t 9))] [0,3,4,10])
 (.cond (.t 10)
 (.skip)
 (.exit 0)))
 AaW
def Abp:Af := .block 0 (.own 3 24 (.loop [0,3,4] Abj))
def Sr:Af := .seq (.ops [mv_ 75 3,mv_ 2 75] [2])
 (.ret)
def YK:Af := .seq (.seq (.ops [po_ 4 (.mov (ci_ 0))] [0,3,4])
 Abp)
 Sr
def Zv:Af := .seq (.ops [po_ 3 (.mov (.c (.slice none 0 0)))] [0,3])
 YK
def Ahf:Af := .seq (.ops [po_ 2 (.mov (.c (.slice none 0 0)))] [0])
 Zv
def Aab:List VR:=[.tmp 2]
theorem Ams:Tryz.f18.body.bind (trC Tryz.prog Tryz.f18.ntmps)=some (er Ahf):=by kernel_rfl
theorem AmL:trR Tryz.prog Tryz.f18.results.toList=some Aab:=by kernel_rfl
def Ik:=Aa Aay.eq_1
def Ahx:=Aa AaA.eq_1
def Agf:=Aa AaL.eq_1
def Ahl:=Aa NG.eq_1
def Agp:=Aa Aa5.eq_1
def Ahj:=Aa TF.eq_1
def Ahg:=Aa AaW.eq_1
def WB:=Aa Abj.eq_1
def AgM:=Aa Abp.eq_1
def Afi:=Aa Sr.eq_1
def AeN:=Aa YK.eq_1
def Ae5:=Aa Zv.eq_1
def AjW:=Aa Ahf.eq_1
theorem Aj4 {K:TV→Prop} {e:Env} {H:List Ob}:res Aab e H K=res [.tmp 2] e H K:=Ad rfl
def Alp:=D7 76 Tryz.func18 Ams AmL rfl
end
section
open Go.RowKit
section
variable [AL] {P:Program} {PP:Value→List Ob→Prop} {e:Env} {H:List Ob} {r:List VO} {Ss:SsT}
end
theorem Adu (l:List UInt8):(str l).toList=l:=by rw [Lib.toList_data]; rfl
theorem Brx {t:TypeId} {a b:List UInt8}:I9 t .lss (.string (str a)) (.string (str b))=some (.bool (Op.bytesLess a b)):=by
 rw [I9,binOp_string_lss,Adu,Adu]; rfl
end
section
open Go.RowKit
variable [AL]
def enJ (e:EnJ):TV := .agg [ts e.path,i64 e.mode,.arr 20 1 (e.id.map by8),i64 e.size,i64 e.stage]
theorem YR (e:EnJ):enJ e = .agg [ts e.path,i64 e.mode,.arr 20 1 (e.id.map by8),i64 e.size,i64 e.stage]:=by unfold enJ; rfl
theorem Pn (e:EnJ):AC (enJ e)=24:=by rw [YR]; rfl
theorem UR (e:EnJ):Aiq (enJ e)=true:=by rw [YR]; rfl
theorem Agi (e:EnJ):DY (enJ e)=false:=by rw [YR]; rfl
theorem Ahr (e:EnJ):lays (enJ e)=true:=by rw [YR]; rfl
theorem UX (e:EnJ):Hm (enJ e)=true:=by
 rw [YR]
 simp [Hm,DI]
theorem Af7:∀ l:List EnJ,MZ (l.map enJ)=true
 | []=>by rw [List.map_nil,MZ]
 | e::l=>by
  rw [List.map_cons,MZ,Af7 l,YR]
  simp [Aow,MZ,AoG]
theorem AqV {α:Type} {z a:α}:(List.replicate 1 z).set 0 a=[a]:=by simp [List.replicate]
theorem Akm {t:TypeId} {a b:List UInt8}:I9 t .lss (.string (str a)) (.string (str b))=some (.bool (decide (ltB a b))):=by rw [Brx,Apm]; rfl
theorem BiV {t:TypeId} {a b:List UInt8}:I9 t .gtr (.string (str a)) (.string (str b))=some (.bool (decide (ltB b a))):=by
 have e1:I9 t .gtr (.string (str a)) (.string (str b))=some (.bool !(Op.bytesLess a b || a == b)):=by
  rw [I9,binOp_string_gtr,Adu,Adu]; rfl
 rw [e1,Apm]
 congr 2
 by_cases h:ltB b a
 ·have h1:¬ a<b:=fun k=>Gf _ (Qj h k)
  have h2:¬ a=b:=fun k=>by rw [k] at h; exact Gf _ h
  simp [h,h1,h2]
 ·by_cases h1:a<b
  ·simp [h,h1]
  ·have h2:a=b:=Afp h1 h
   subst h2
   simp [h]
def Bl7 (a b:Int):Int:=if a<b then -1 else if b<a then 1 else 0
def Ble (a b:List UInt8):Int:=if ltB a b then -1 else if ltB b a then 1 else 0
def orI (x y:Int):Int:=if x=0 then y else x
def BkM (x y:EnJ):Int:=orI (Ble x.path y.path) (Bl7 x.stage y.stage)
theorem AcW (x y:EnJ):(BkM x y<0)↔ltJ x y=true:=by
 rw [AjP]
 unfold BkM orI Ble Bl7
 by_cases h:ltB x.path y.path
 ·simp [h]
 ·by_cases h2:ltB y.path x.path
  ·have h3:¬ x.path=y.path:=fun k=>by rw [k] at h2; exact Gf _ h2
   simp [h,h2,h3]
  ·have h3:x.path=y.path:=Afp h h2
   rw [if_neg h,if_neg h2,if_pos rfl]
   by_cases h4:x.stage<y.stage
   ·simp [h4,h3]
   ·rw [if_neg h4]
    have:¬ ((if y.stage<x.stage then (1:Int) else 0)<0):=by split<;>omega
    simp [this,h,h4]
theorem BpB (a b:List UInt8):BD Tryz.prog 73 [ts a,ts b] (fun r=>r=i64 (Ble a b)):=by
 refine Au.toPureV (Ab1 (by simp) ?_)
 have nan:∀ a:List UInt8,BD Tryz.prog 103 [ts a] (fun r=>r=tb false):=fun a=>by
  refine Au.toPureV (AeR (by simp) ?_)
  simp -dsimp (disch:=first | assumption | omega) only [↓Ag,Ae,Ai,Ah,eq_self,Nat.reduceEqDiff,↓reduceIte,reduceCtorEq,↓AgZ]
 simp -dsimp (disch:=first | assumption | omega) only [↓Ag,Ae,Ai,Ah,eq_self,Nat.reduceEqDiff,↓reduceIte,Nat.reduceAdd,reduceCtorEq,↓FP]
 refine (nan a).calls rfl ?_
 rintro _ rfl
 simp -dsimp (disch:=first | assumption | omega) only [↓Ag,Ae,Ai,Ah,eq_self,Nat.reduceEqDiff,↓reduceIte,reduceCtorEq,↓FP]
 refine (nan b).calls rfl ?_
 rintro _ rfl
 unfold Ble
 by_cases h:ltB a b
 ·rw [if_pos h]
  simp -dsimp (disch:=first | assumption | omega) only [↓Ag,Ae,Ai,Ah,eq_self,Nat.reduceEqDiff,↓reduceIte,reduceCtorEq,↓FP,Akm,h]
 ·rw [if_neg h]
  by_cases h2:ltB b a
  ·rw [if_pos h2]
   simp -dsimp (disch:=first | assumption | omega) only [↓Ag,Ae,Ai,Ah,eq_self,Nat.reduceEqDiff,↓reduceIte,reduceCtorEq,↓FP,Akm,BiV,h,h2]
   rfl
  ·rw [if_neg h2]
   simp -dsimp (disch:=first | assumption | omega) only [↓Ag,Ae,Ai,Ah,eq_self,Nat.reduceEqDiff,↓reduceIte,reduceCtorEq,↓FP,Akm,BiV,h,h2]
   rfl
theorem BpH (a b:Int):BD Tryz.prog 74 [i64 a,i64 b] (fun r=>r=i64 (Bl7 a b)):=by
 refine Au.toPureV (AgB (by simp) ?_)
 have nan:∀ a:Int,BD Tryz.prog 104 [i64 a] (fun r=>r=tb false):=fun a=>by
  refine Au.toPureV (Ai3 (by simp) ?_)
  simp -dsimp (disch:=first | assumption | omega) only [↓Ag,Ae,Ai,Ah,eq_self,Nat.reduceEqDiff,↓reduceIte,reduceCtorEq,↓Akz]
 simp -dsimp (disch:=first | assumption | omega) only [↓Ag,Ae,Ai,Ah,eq_self,Nat.reduceEqDiff,↓reduceIte,Nat.reduceAdd,reduceCtorEq,↓Jz]
 refine (nan a).calls rfl ?_
 rintro _ rfl
 simp -dsimp (disch:=first | assumption | omega) only [↓Ag,Ae,Ai,Ah,eq_self,Nat.reduceEqDiff,↓reduceIte,reduceCtorEq,↓Jz]
 refine (nan b).calls rfl ?_
 rintro _ rfl
 unfold Bl7
 by_cases h:a<b
 ·rw [if_pos h]
  simp -dsimp (disch:=first | assumption | omega) only [↓Ag,Ae,Ai,Ah,eq_self,Nat.reduceEqDiff,↓reduceIte,reduceCtorEq,↓Jz]
 ·rw [if_neg h]
  by_cases h2:b<a
  ·rw [if_pos h2]
   simp -dsimp (disch:=first | assumption | omega) only [↓Ag,Ae,Ai,Ah,eq_self,Nat.reduceEqDiff,↓reduceIte,reduceCtorEq,↓Jz]
   rfl
  ·rw [if_neg h2]
   simp -dsimp (disch:=first | assumption | omega) only [↓Ag,Ae,Ai,Ah,eq_self,Nat.reduceEqDiff,↓reduceIte,reduceCtorEq,↓Jz]
   rfl
theorem orV (x y:Int):BD Tryz.prog 72 [.sl 1 [i64 x,i64 y]] (fun r=>r=i64 (orI x y)):=by
 refine Au.toPureV (Amv (by simp) ?_)
 simp -dsimp (disch:=first | assumption | omega) only [↓Ag,Ae,Ai,Ah,eq_self,Nat.reduceEqDiff,↓reduceIte,Nat.reduceAdd,reduceCtorEq,↓NW]
 refine Cj (fun q e H=>∃ i:Nat,q=2 - i∧i≤2∧(1≤i→x=0)∧(2≤i→y=0)∧e=[(3,i64 ((0:Nat):Int)),(6,.sl 1 [i64 x,i64 y]),(7,i64 ((2:Nat):Int)),(8,i64 ((i:Nat):Int))]∧H=[]) 2 ?_ ?_
 ·exact ⟨0,rfl,by omega,by omega,by omega,rfl,rfl⟩
 ·rintro q e H ⟨i,rfl,hi,h1,h2,rfl,rfl⟩
  rcases (show i=0∨i=1∨i=2 by omega) with rfl | rfl | rfl
  ·by_cases hx:x=0
   ·simp -dsimp (disch:=first | assumption | omega) only [↓Ag,Ae,Ai,Ah,eq_self,Nat.reduceLT,Nat.reduceEqDiff,↓reduceIte,↓NW]
    exact Aq 1 (by omega) (by simp) ⟨1,rfl,by omega,fun _=>hx,by omega,by simp [forget,get],rfl⟩
   ·simp -dsimp (disch:=first | assumption | omega) only [↓Ag,Ae,Ai,Ah,eq_self,Nat.reduceLT,Nat.reduceEqDiff,↓reduceIte,↓NW]
    unfold orI; rw [if_neg hx]
  ·by_cases hy:y=0
   ·simp -dsimp (disch:=first | assumption | omega) only [↓Ag,Ae,Ai,Ah,eq_self,Nat.reduceLT,Nat.reduceEqDiff,Nat.reduceSub,↓reduceIte,Nat.reduceAdd,↓NW]
    exact Aq 0 (by omega) (by simp) ⟨2,rfl,by omega,fun _=>h1 (by omega),fun _=>hy,by simp [forget,get],rfl⟩
   ·simp -dsimp (disch:=first | assumption | omega) only [↓Ag,Ae,Ai,Ah,eq_self,Nat.reduceLT,Nat.reduceEqDiff,↓reduceIte,↓NW]
    unfold orI; rw [if_pos (h1 (by omega))]
  ·simp -dsimp (disch:=first | assumption | omega) only [↓Ag,Ae,Ai,Ah,eq_self,Nat.reduceLT,Nat.reduceEqDiff,↓reduceIte,↓NW]
   unfold orI; rw [if_pos (h1 (by omega)),h2 (by omega)]; rfl
theorem BlJ {z a b:TV}:((List.replicate 2 z).set 0 a).set 1 b=[a,b]:=by simp [List.replicate_succ]
theorem Aqy (x y:EnJ):BD Tryz.prog 44 [enJ x,enJ y] (fun r=>r=i64 (BkM x y)):=by
 refine Au.toPureV (Ak2 (by simp) ?_)
 rw [YR,YR]
 simp -dsimp (disch:=first | assumption | omega | (simp only [Ac];try omega)) only [↓Ag,Ae,Ai,Ah,eq_self,Nat.reduceEqDiff,↓reduceIte,Nat.reduceAdd,reduceCtorEq,↓AmI]
 refine ⟨i64 (Ble x.path y.path),(BpB _ _).calls rfl fun r hr=>⟨hr,rfl⟩,?_⟩
 simp -dsimp (disch:=first | assumption | omega | (simp only [Ac];try omega)) only [↓Ag,Ae,Ai,Ah,eq_self,Nat.reduceEqDiff,↓reduceIte,Nat.reduceAdd]
 refine (BpH x.stage y.stage).calls rfl fun r hr => ?_
 subst hr
 simp -dsimp (disch:=first | assumption | omega | (simp only [Ac];try omega)) only [↓Ag,Ae,Ai,Ah,eq_self,Nat.reduceEqDiff,↓reduceIte,Nat.reduceAdd,Nat.reduceLeDiff]
 refine (orV (Ble x.path y.path) (Bl7 x.stage y.stage)).lends (args':=[.sl 1 [i64 (Ble x.path y.path),i64 (Bl7 x.stage y.stage)]]) ?_ fun r hr=>⟨?_,?_⟩
 ·simp -dsimp (disch:=first | assumption | omega | (simp only [Ac];try omega)) only [Ai,Ah,eq_self,↓reduceIte,Nat.reduceAdd,Nat.reduceLeDiff,BlJ]
 ·subst hr; rfl
 ·subst hr
  simp -dsimp (disch:=first | assumption | omega | (simp only [Ac];try omega)) only [↓Ag,Ae,Ai,Ah,eq_self,↓reduceIte]
  rfl
end
section
open Go.RowKit Go.Extern.Stop Go.Stop Go.Extern
variable [AL]
theorem Akd (t:Addr) (w:World):(ReflectliteValue.unpack (.iface 77 (.pointer (some t)))).run Tryz.prog w
  = .ok (.agg #[.pointer (some ⟨10,77,none⟩),.pointer (some ⟨w.heap.size,0,none⟩),.int .u64 150]) (w.alloc (.cells #[.pointer (some t)] 77)):=by kernel_rfl
theorem Aqm (a:Addr) (w:World):(ReflectliteValue.methodAny (ReflectliteValue.valueError "reflectlite.Value.Type" 0) (fun t _ _ _=>ReflectliteType.toType t) #[.agg #[.pointer (some ⟨10,77,none⟩),.pointer (some a),.int .u64 150]]).run Tryz.prog w
  = .ok (.iface 156 (.agg #[.pointer (some ⟨10,77,none⟩)])) w:=by kernel_rfl
theorem AiE (h:Value) (w:World):(Go.method 384 156 (.agg #[h]) "Kind").run Tryz.prog w = .ok (183,h) w:=by kernel_rfl
theorem Aqp (w:World):((ReflectliteType.abiMethod fun t=>(fun a:Nat=>Value.int IntKind.u8 (a:Int)) <$> Rtype.kind t) #[.pointer (some ⟨10,77,none⟩)]).run Tryz.prog w = .ok (.int .u8 22) w:=by kernel_rfl
theorem Aq1 (w:World):((ReflectliteType.abiMethod fun t=>(fun a:Nat=>Value.int IntKind.u8 (a:Int)) <$> Rtype.kind t) #[.pointer (some ⟨10,45,none⟩)]).run Tryz.prog w = .ok (.int .u8 2) w:=by kernel_rfl
theorem rlm (z:Sem Value) (f:TypeId→Addr→Nat→Nat→Sem Value) (v:Value) :
  ReflectliteValue.method z f #[v]=(do match ← ReflectliteValue.parts v with | none=>z | some (t,a,fl)=>f t a fl (fl % 32)):=rfl
theorem AnE (a:Addr) (w:World):(ReflectliteValue.parts (.agg #[.pointer (some ⟨10,77,none⟩),.pointer (some a),.int .u64 150])).run Tryz.prog w = .ok (some (77,a,150)) w:=by kernel_rfl
theorem AoP (a p:Addr) (W:World) (ha:W.cell? a=some (.pointer (some p))) :
  (ReflectliteValue.method (ReflectliteValue.valueError "reflectlite.Value.IsNil" 0) ReflectliteValue.isNil #[.agg #[.pointer (some ⟨10,77,none⟩),.pointer (some a),.int .u64 150]]).run Tryz.prog W = .ok (.bool false) W:=by
 rw [rlm]
 simp only [Sem.run_bind,AnE,Result.andThen]
 simp [ReflectliteValue.isNil,loadVar,isAgg,underlying,Tryz.underlying77,ha,Result.andThen]
theorem AiN (h:Value) (w:World):(Go.method 384 156 (.agg #[h]) "Elem").run Tryz.prog w = .ok (195,.agg #[h]) w:=by kernel_rfl
theorem WH (h:Value) (w:World):(Go.method 384 156 (.agg #[h]) "Implements").run Tryz.prog w = .ok (196,.agg #[h]) w:=by kernel_rfl
theorem Uo (h:Value) (w:World):(Go.method 384 156 (.agg #[h]) "AssignableTo").run Tryz.prog w = .ok (193,.agg #[h]) w:=by kernel_rfl
theorem Arf (w:World):(ReflectliteType.method ReflectliteType.elem #[.agg #[.pointer (some ⟨10,77,none⟩)]]).run Tryz.prog w = .ok (.iface 156 (.agg #[.pointer (some ⟨10,45,none⟩)])) w:=by kernel_rfl
theorem Ad9 (w:World):(ReflectliteType.relation "Implements" ReflectliteType.implements_ #[.agg #[.pointer (some ⟨10,45,none⟩)],.iface 156 (.agg #[.pointer (some ⟨10,38,none⟩)])]).run Tryz.prog w = .ok (.bool true) w:=by kernel_rfl
theorem Al0 (v:Value) (w:World):(ReflectliteType.typeOf #[.iface 45 v]).run Tryz.prog w = .ok (.iface 156 (.agg #[.pointer (some ⟨10,45,none⟩)])) w:=by kernel_rfl
theorem Ad7 (w:World):(ReflectliteType.relation "AssignableTo" ReflectliteType.assignableTo #[.agg #[.pointer (some ⟨10,45,none⟩)],.iface 156 (.agg #[.pointer (some ⟨10,45,none⟩)])]).run Tryz.prog w = .ok (.bool true) w:=by kernel_rfl
theorem Akh (e:Int) (w:World):(ReflectliteValue.unpack (.iface 45 (.int .i64 e))).run Tryz.prog w
  = .ok (.agg #[.pointer (some ⟨10,45,none⟩),.pointer (some ⟨w.heap.size,0,none⟩),.int .u64 130]) (w.alloc (.cells #[.int .i64 e] 45)):=by kernel_rfl
theorem Ar1 (w:World):(Rtype.elem? 77).run Tryz.prog w = .ok (some 45) w:=by kernel_rfl
theorem Bn4 (p:Addr) (w:World):(ReflectliteValue.mk 45 p ReflectliteValue.flagAddr).run Tryz.prog w = .ok (.agg #[.pointer (some ⟨10,45,none⟩),.pointer (some p),.int .u64 386]) w:=by kernel_rfl
theorem AnZ (a p:Addr) (W:World) (ha:W.cell? a=some (.pointer (some p))) :
  (ReflectliteValue.method (ReflectliteValue.valueError "reflectlite.Value.Elem" 0) ReflectliteValue.elem #[.agg #[.pointer (some ⟨10,77,none⟩),.pointer (some a),.int .u64 150]]).run Tryz.prog W
   = .ok (.agg #[.pointer (some ⟨10,45,none⟩),.pointer (some p),.int .u64 386]) W:=by
 rw [rlm]
 simp only [Sem.run_bind,AnE,Result.andThen]
 simp [ReflectliteValue.elem,loadVar,isAgg,underlying,Tryz.underlying77,ha,Result.andThen,Ar1,Bn4]
theorem rls (v x:Value):ReflectliteValue.set #[v,x]=(do
  let (some (dst,a,fl),some (src,b,_)):=(←ReflectliteValue.parts v,←ReflectliteValue.parts x)
   | unsupported (.noEntry "extern/(internal/reflectlite.Value).Set.zeroValue")
  if fl / ReflectliteValue.flagAddr % 2 == 0 then unsupported (.noEntry "extern/(internal/reflectlite.Value).Set.unaddressable")
  let val ← loadVar src b
  if ← Rtype.directlyAssignable dst src then storeVar dst a val
  else if ← Rtype.implements dst src then
   if (←Rtype.kind src) == 20 then
    match val with
    | .nilIface=>unsupported (.noEntry "extern/reflectlite: a nil value of one interface type handed on as a value of another")
    | _=>storeVar dst a val
   else storeVar dst a (.iface src val)
  else panicString ("reflectlite.Set: value of type " ++ (←Rtype.spelt src) ++ " is not assignable to type " ++ (←Rtype.spelt dst))
  pure (.tuple #[])):=rfl
theorem Asa (a:Addr) (w:World):(ReflectliteValue.parts (.agg #[.pointer (some ⟨10,45,none⟩),.pointer (some a),.int .u64 386])).run Tryz.prog w = .ok (some (45,a,386)) w:=by kernel_rfl
theorem A2F (a:Addr) (w:World):(ReflectliteValue.parts (.agg #[.pointer (some ⟨10,45,none⟩),.pointer (some a),.int .u64 130])).run Tryz.prog w = .ok (some (45,a,130)) w:=by kernel_rfl
theorem Arq (w:World):(Rtype.directlyAssignable 45 45).run Tryz.prog w = .ok true w:=by kernel_rfl
theorem Bfe (ta b:Addr) (e:Int) (old:Value) (W:World) (hb:W.cell? b=some (.int .i64 e)) (ht:W.cell? ta=some old) (hf:W.frozen? ta=false) :
  (ReflectliteValue.set #[.agg #[.pointer (some ⟨10,45,none⟩),.pointer (some ta),.int .u64 386],.agg #[.pointer (some ⟨10,45,none⟩),.pointer (some b),.int .u64 130]]).run Tryz.prog W
   = .ok (.tuple #[]) (W.setCell ta (.int .i64 e)):=by
 rw [rls]
 simp only [Sem.run_bind,Asa,A2F,Result.andThen]
 simp [ReflectliteValue.flagAddr,loadVar,isAgg,underlying,Tryz.underlying45,hb,Result.andThen,Arq,storeVar,Value.cells,storeCells,Addr.add]
 rw [run_store Tryz.prog W ta _ _ (by rfl)]
 simp [ht,hf]
set_option maxHeartbeats 4000000 in
theorem BoW (e:Int) (t:Addr) (old:Value) (w:World) (hg:w.cell? ⟨0,0,none⟩=some (.iface 156 (.agg #[.pointer (some ⟨10,38,none⟩)]))) (ht0:w.cell? t=some old) (hf0:w.frozen? t=false) :
  Calls Tryz.prog 25 #[.iface 45 (.int .i64 e),.iface 77 (.pointer (some t))] w fun ev w'=>ev = .returned (.bool true)∧w'=((((w.alloc (.cells #[.pointer (some t)] 77)).alloc (.cells #[.pointer (some ⟨10,77,none⟩),.pointer (some ⟨w.heap.size,0,none⟩),.int .u64 150] 119)).alloc (.cells #[.pointer (some ⟨10,77,none⟩),.pointer (some ⟨w.heap.size,0,none⟩),.int .u64 150] 119)).alloc (.cells #[.int .i64 e] 45)).setCell t (.int .i64 e):=by
 have h6:=@run_callFunc_extern Tryz.prog 45 _ (fun args=>ReflectliteValue.unpack (args.getD 0 (.tuple #[]))) Tryz.func45 (by kernel_rfl) (by kernel_rfl) (by kernel_rfl) (by kernel_rfl)
 have h7:=@run_callFunc_extern Tryz.prog 46 _ (ReflectliteValue.methodAny (ReflectliteValue.valueError "reflectlite.Value.Type" 0) (fun t _ _ _=>ReflectliteType.toType t)) Tryz.func46 (by kernel_rfl) (by kernel_rfl) (by kernel_rfl) (by kernel_rfl)
 have h8:=@run_callFunc_extern Tryz.prog 47 _ (ReflectliteValue.method (ReflectliteValue.valueError "reflectlite.Value.IsNil" 0) ReflectliteValue.isNil) Tryz.func47 (by kernel_rfl) (by kernel_rfl) (by kernel_rfl) (by kernel_rfl)
 have h27:=@run_callFunc_extern Tryz.prog 183 _ (ReflectliteType.abiMethod fun t=>do pure (.int .u8 (←Rtype.kind t))) Tryz.func183 (by kernel_rfl) (by kernel_rfl) (by kernel_rfl) (by kernel_rfl)
 have h37:=@run_callFunc_extern Tryz.prog 195 _ (ReflectliteType.method ReflectliteType.elem) Tryz.func195 (by kernel_rfl) (by kernel_rfl) (by kernel_rfl) (by kernel_rfl)
 have h38:=@run_callFunc_extern Tryz.prog 196 _ (ReflectliteType.relation "Implements" ReflectliteType.implements_) Tryz.func196 (by kernel_rfl) (by kernel_rfl) (by kernel_rfl) (by kernel_rfl)
 have h10:=@run_callFunc_extern Tryz.prog 75 _ ReflectliteType.typeOf Tryz.func75 (by kernel_rfl) (by kernel_rfl) (by kernel_rfl) (by kernel_rfl)
 have h35:=@run_callFunc_extern Tryz.prog 193 _ (ReflectliteType.relation "AssignableTo" ReflectliteType.assignableTo) Tryz.func193 (by kernel_rfl) (by kernel_rfl) (by kernel_rfl) (by kernel_rfl)
 have h11:=@run_callFunc_extern Tryz.prog 76 _ (ReflectliteValue.method (ReflectliteValue.valueError "reflectlite.Value.Elem" 0) ReflectliteValue.elem) Tryz.func76 (by kernel_rfl) (by kernel_rfl) (by kernel_rfl) (by kernel_rfl)
 have h12:=@run_callFunc_extern Tryz.prog 77 _ ReflectliteValue.set Tryz.func77 (by kernel_rfl) (by kernel_rfl) (by kernel_rfl) (by kernel_rfl)
 have tO:=Al0
 have mA:=Uo
 have a25:=Ad7
 have v25:=Akh
 have f6:=Akd
 have f7:=Aqm
 have mK:=AiE
 have mE:=AiN
 have mI:=WH
 have k27:=Aqp
 have k25:=Aq1
 have e27:=Arf
 have i25:=Ad9
 have n8:=AoP ⟨w.heap.size,0,none⟩ t ((w.alloc (.cells #[.pointer (some t)] 77)).alloc (.cells #[.pointer (some ⟨10,77,none⟩),.pointer (some ⟨w.heap.size,0,none⟩),.int .u64 150] 119)) (by simp)
 have hlt:0<w.heap.size:=by
  rcases Nat.lt_or_ge 0 w.heap.size with h | h
  ·exact h
  ·simp [World.cell?,Array.getElem?_eq_none h] at hg
 have hg2:((w.alloc (.cells #[.pointer (some t)] 77)).alloc (.cells #[.pointer (some ⟨10,77,none⟩),.pointer (some ⟨w.heap.size,0,none⟩),.int .u64 150] 119)).cell? ⟨0,0,none⟩=some (.iface 156 (.agg #[.pointer (some ⟨10,38,none⟩)])):=by
  rw [World.cell?_alloc_lt _ _ ⟨0,0,none⟩ (Nat.lt_of_lt_of_le hlt (by simp)),World.cell?_alloc_lt _ _ ⟨0,0,none⟩ hlt]; exact hg
 have htl:t.block<w.heap.size:=by
  rcases Nat.lt_or_ge t.block w.heap.size with h | h
  ·exact h
  ·simp [World.cell?,Array.getElem?_eq_none h] at ht0
 have el:=AnZ ⟨w.heap.size,0,none⟩ t (((w.alloc (.cells #[.pointer (some t)] 77)).alloc (.cells #[.pointer (some ⟨10,77,none⟩),.pointer (some ⟨w.heap.size,0,none⟩),.int .u64 150] 119)).alloc (.cells #[.pointer (some ⟨10,77,none⟩),.pointer (some ⟨w.heap.size,0,none⟩),.int .u64 150] 119)) (by rw [World.cell?_alloc_lt _ _ ⟨w.heap.size,0,none⟩ (by simp; omega)]; simp)
 have st:=Bfe t ⟨w.heap.size+1+1+1,0,none⟩ e old ((((w.alloc (.cells #[.pointer (some t)] 77)).alloc (.cells #[.pointer (some ⟨10,77,none⟩),.pointer (some ⟨w.heap.size,0,none⟩),.int .u64 150] 119)).alloc (.cells #[.pointer (some ⟨10,77,none⟩),.pointer (some ⟨w.heap.size,0,none⟩),.int .u64 150] 119)).alloc (.cells #[.int .i64 e] 45))
  (by rw [World.cell?_alloc_at _ _ _ _ (by simp)]; rfl)
  (by rw [World.cell?_alloc_lt _ _ t (by simp; omega),World.cell?_alloc_lt _ _ t (by simp; omega),World.cell?_alloc_lt _ _ t (by simp; omega),World.cell?_alloc_lt _ _ t htl]; exact ht0)
  (by rw [World.frozen?_alloc_old _ _ t (by simp; omega),World.frozen?_alloc_old _ _ t (by simp; omega),World.frozen?_alloc_old _ _ t (by simp; omega),World.frozen?_alloc_old _ _ t (Nat.ne_of_lt htl)]; exact hf0)
 go_enter Tryz.func25,Tryz.ntmps25
 go_wp2
 refine wp_loop_rounds 1 ?_
 rw [rounds_succ]
 go_wp2
 go_ret
 exact ⟨rfl,rfl⟩
end
section
open Go.RowKit Go.Extern.Stop Go.Stop Go.Extern
variable [AL]
theorem ArO (v:Value) (w:World):(ReflectliteType.typeOf #[.iface 111 v]).run Tryz.prog w = .ok (.iface 156 (.agg #[.pointer (some ⟨10,111,none⟩)])) w:=by kernel_rfl
theorem Alr (w:World):(ReflectliteType.relation "AssignableTo" ReflectliteType.assignableTo #[.agg #[.pointer (some ⟨10,111,none⟩)],.iface 156 (.agg #[.pointer (some ⟨10,45,none⟩)])]).run Tryz.prog w = .ok (.bool false) w:=by kernel_rfl
theorem Bia (v:Value) (xT:TypeId) (w:World):(Instr.typeAssert (.iface 111 v) xT 161 true).run Tryz.prog w = .ok (.tuple #[.nilIface,.bool false]) w:=run_typeAssert_lacksB Tryz.underlying161 (by kernel_rfl) (by kernel_rfl) v xT w
theorem Amy (v:Value) (xT:TypeId) (w:World):(Instr.typeAssert (.iface 111 v) xT 164 true).run Tryz.prog w = .ok (.tuple #[.iface 111 v,.bool true]) w:=run_typeAssert_hasB Tryz.underlying164 (by kernel_rfl) v xT w
theorem Ajr (v:Value) (w:World):(Go.method 384 111 v "Unwrap").run Tryz.prog w = .ok (188,v) w:=by kernel_rfl
set_option maxRecDepth 1000000 in
set_option maxHeartbeats 4000000 in
theorem A2B (e:Int) (pb po:Nat) (t:Addr) (old:Value) (w:World) (hp:w.cell? ⟨pb,po+20,none⟩=some (.int .i64 e)) (hg:w.cell? ⟨0,0,none⟩=some (.iface 156 (.agg #[.pointer (some ⟨10,38,none⟩)]))) (ht0:w.cell? t=some old) (hf0:w.frozen? t=false) :
  Calls Tryz.prog 25 #[.iface 111 (.pointer (some ⟨pb,po,none⟩)),.iface 77 (.pointer (some t))] w fun ev w'=>ev = .returned (.bool true)∧w'=((((w.alloc (.cells #[.pointer (some t)] 77)).alloc (.cells #[.pointer (some ⟨10,77,none⟩),.pointer (some ⟨w.heap.size,0,none⟩),.int .u64 150] 119)).alloc (.cells #[.pointer (some ⟨10,77,none⟩),.pointer (some ⟨w.heap.size,0,none⟩),.int .u64 150] 119)).alloc (.cells #[.int .i64 e] 45)).setCell t (.int .i64 e):=by
 have h6:=@run_callFunc_extern Tryz.prog 45 _ (fun args=>ReflectliteValue.unpack (args.getD 0 (.tuple #[]))) Tryz.func45 (by kernel_rfl) (by kernel_rfl) (by kernel_rfl) (by kernel_rfl)
 have h7:=@run_callFunc_extern Tryz.prog 46 _ (ReflectliteValue.methodAny (ReflectliteValue.valueError "reflectlite.Value.Type" 0) (fun t _ _ _=>ReflectliteType.toType t)) Tryz.func46 (by kernel_rfl) (by kernel_rfl) (by kernel_rfl) (by kernel_rfl)
 have h8:=@run_callFunc_extern Tryz.prog 47 _ (ReflectliteValue.method (ReflectliteValue.valueError "reflectlite.Value.IsNil" 0) ReflectliteValue.isNil) Tryz.func47 (by kernel_rfl) (by kernel_rfl) (by kernel_rfl) (by kernel_rfl)
 have h27:=@run_callFunc_extern Tryz.prog 183 _ (ReflectliteType.abiMethod fun t=>do pure (.int .u8 (←Rtype.kind t))) Tryz.func183 (by kernel_rfl) (by kernel_rfl) (by kernel_rfl) (by kernel_rfl)
 have h37:=@run_callFunc_extern Tryz.prog 195 _ (ReflectliteType.method ReflectliteType.elem) Tryz.func195 (by kernel_rfl) (by kernel_rfl) (by kernel_rfl) (by kernel_rfl)
 have h38:=@run_callFunc_extern Tryz.prog 196 _ (ReflectliteType.relation "Implements" ReflectliteType.implements_) Tryz.func196 (by kernel_rfl) (by kernel_rfl) (by kernel_rfl) (by kernel_rfl)
 have h10:=@run_callFunc_extern Tryz.prog 75 _ ReflectliteType.typeOf Tryz.func75 (by kernel_rfl) (by kernel_rfl) (by kernel_rfl) (by kernel_rfl)
 have h35:=@run_callFunc_extern Tryz.prog 193 _ (ReflectliteType.relation "AssignableTo" ReflectliteType.assignableTo) Tryz.func193 (by kernel_rfl) (by kernel_rfl) (by kernel_rfl) (by kernel_rfl)
 have h11:=@run_callFunc_extern Tryz.prog 76 _ (ReflectliteValue.method (ReflectliteValue.valueError "reflectlite.Value.Elem" 0) ReflectliteValue.elem) Tryz.func76 (by kernel_rfl) (by kernel_rfl) (by kernel_rfl) (by kernel_rfl)
 have h12:=@run_callFunc_extern Tryz.prog 77 _ ReflectliteValue.set Tryz.func77 (by kernel_rfl) (by kernel_rfl) (by kernel_rfl) (by kernel_rfl)
 have tO:=Al0
 have tO2:=ArO
 have mA:=Uo
 have a25:=Ad7
 have a2:=Alr
 have nA:=Bia
 have hU:=Amy
 have mU:=Ajr
 have v25:=Akh
 have f6:=Akd
 have f7:=Aqm
 have mK:=AiE
 have mE:=AiN
 have mI:=WH
 have k27:=Aqp
 have k25:=Aq1
 have e27:=Arf
 have i25:=Ad9
 have n8:=AoP ⟨w.heap.size,0,none⟩ t ((w.alloc (.cells #[.pointer (some t)] 77)).alloc (.cells #[.pointer (some ⟨10,77,none⟩),.pointer (some ⟨w.heap.size,0,none⟩),.int .u64 150] 119)) (by simp)
 have lt_of:∀ {a:Addr} {v:Value},w.cell? a=some v→a.block<w.heap.size:=by
  intro a v h
  rcases Nat.lt_or_ge a.block w.heap.size with h2 | h2
  ·exact h2
  ·simp [World.cell?,Array.getElem?_eq_none h2] at h
 have hlt:0<w.heap.size:=lt_of hg
 have hpl:pb<w.heap.size:=lt_of hp
 have hg2:((w.alloc (.cells #[.pointer (some t)] 77)).alloc (.cells #[.pointer (some ⟨10,77,none⟩),.pointer (some ⟨w.heap.size,0,none⟩),.int .u64 150] 119)).cell? ⟨0,0,none⟩=some (.iface 156 (.agg #[.pointer (some ⟨10,38,none⟩)])):=by
  rw [World.cell?_alloc_lt _ _ ⟨0,0,none⟩ (Nat.lt_of_lt_of_le hlt (by simp)),World.cell?_alloc_lt _ _ ⟨0,0,none⟩ hlt]; exact hg
 have htl:t.block<w.heap.size:=lt_of ht0
 have el:=AnZ ⟨w.heap.size,0,none⟩ t (((w.alloc (.cells #[.pointer (some t)] 77)).alloc (.cells #[.pointer (some ⟨10,77,none⟩),.pointer (some ⟨w.heap.size,0,none⟩),.int .u64 150] 119)).alloc (.cells #[.pointer (some ⟨10,77,none⟩),.pointer (some ⟨w.heap.size,0,none⟩),.int .u64 150] 119)) (by rw [World.cell?_alloc_lt _ _ ⟨w.heap.size,0,none⟩ (by simp; omega)]; simp)
 have hc3:(((w.alloc (.cells #[.pointer (some t)] 77)).alloc (.cells #[.pointer (some ⟨10,77,none⟩),.pointer (some ⟨w.heap.size,0,none⟩),.int .u64 150] 119)).alloc (.cells #[.pointer (some ⟨10,77,none⟩),.pointer (some ⟨w.heap.size,0,none⟩),.int .u64 150] 119)).cell? ⟨pb,po+20,none⟩=some (.int .i64 e):=by
  rw [World.cell?_alloc_lt _ _ _ (by simp; omega),World.cell?_alloc_lt _ _ _ (by simp; omega),World.cell?_alloc_lt _ _ _ hpl]; exact hp
 have st:=Bfe t ⟨w.heap.size+1+1+1,0,none⟩ e old ((((w.alloc (.cells #[.pointer (some t)] 77)).alloc (.cells #[.pointer (some ⟨10,77,none⟩),.pointer (some ⟨w.heap.size,0,none⟩),.int .u64 150] 119)).alloc (.cells #[.pointer (some ⟨10,77,none⟩),.pointer (some ⟨w.heap.size,0,none⟩),.int .u64 150] 119)).alloc (.cells #[.int .i64 e] 45))
  (by rw [World.cell?_alloc_at _ _ _ _ (by simp)]; rfl)
  (by rw [World.cell?_alloc_lt _ _ t (by simp; omega),World.cell?_alloc_lt _ _ t (by simp; omega),World.cell?_alloc_lt _ _ t (by simp; omega),World.cell?_alloc_lt _ _ t htl]; exact ht0)
  (by rw [World.frozen?_alloc_old _ _ t (by simp; omega),World.frozen?_alloc_old _ _ t (by simp; omega),World.frozen?_alloc_old _ _ t (by simp; omega),World.frozen?_alloc_old _ _ t (Nat.ne_of_lt htl)]; exact hf0)
 clear lt_of hp hpl
 go_enter Tryz.func25,Tryz.ntmps25
 go_wp2
 refine wp_loop_rounds 2 ?_
 rw [rounds_succ]
 go_wp2
 rw [rounds_succ]
 go_wp2
 go_ret
 exact ⟨rfl,rfl⟩
end
section
variable [AL]
set_option maxRecDepth 100000
def Al2:Af := .seq (.ops [po_ 2 (.mov (ci_ 0))] [0])
 (.seq (.ops [so_ 3 (.alloc (.val (.int .i64 ((0:Nat):Int))))] [0,3])
 (.seq (.block 0 (.seq (.ops [mv_ 5 0,po_ 6 (.eqN 1 (.t 5) (.c .nilIface) false),mv_ 4 6] [0,3,4])
 (.cond (.t 4)
 (.seq (.ops [po_ 2 (.mov (ci_ 0))] [2])
  (.ret))
 (.seq (.ops [mv_ 8 0,po_ 9 (.iface 77 (.t 3)),so_ 10 (.call 25 [.t 8,.t 9]),mv_ 7 10] [3,7])
  (.cond (.t 7)
  (.seq (.ops [po_ 11 (.load false 1 (.t 3)),mv_ 2 11] [2])
   (.ret))
  (.skip))))))
 (.seq (.ops [po_ 2 (.mov (.c (.int .i64 (-1))))] [2])
 (.ret))))
def AlI:List VR:=[.tmp 2]
theorem Ar5:Tryz.f11.body.bind (trC Tryz.prog Tryz.f11.ntmps)=some (er Al2):=by kernel_rfl
theorem Asl:trR Tryz.prog Tryz.f11.results.toList=some AlI:=by kernel_rfl
def AnD:=Aa Al2.eq_1
theorem AnU {K:TV→Prop} {e:Env} {H:List Ob}:res AlI e H K=res [.tmp 2] e H K:=Ad rfl
def YI:=(aI_ @AnD @AnU)
def AfE:=D7 12 Tryz.func11 Ar5 Asl rfl
end
section
open Go.RowKit
variable [AL] [CX]
theorem WW.refl {F:Nat→Prop} {w:World} (h:∀ b,F b→b<w.heap.size):WW F w F w:=⟨rfl,rfl,rfl,Nat.le_refl _,fun _ _=>rfl,fun _ h=>h,fun _ _ h=>h,h⟩
theorem WW.alloc {F F':Nat→Prop} {w w':World} (h:WW F w F' w') (o:Obj):WW F w F' (w'.alloc o) :=
 ⟨h.os,h.tape,h.output,by have:=h.size; simp; omega,fun b hb=>(Fz w' o (Nat.lt_of_lt_of_le hb h.size)).trans (h.same b hb),h.keepF,h.oldF,fun b hb=>by have:=h.ltF b hb; simp; omega⟩
abbrev eno (n:Int):TV := .ifc 45 (i64 n)
theorem BfA {n:Int} {id ver:Nat} {p:List (Nat×Nat)} {x x':TV} {H:List Ob} {K:TV→List Ob→Prop} (ho:H[id]?=some (.obj ver x)) (hs2:Aes p x (i64 n)=some x') (hk:K (tb true) (H.set id (.obj ver x'))) :
  Au Tryz.prog 25 [eno n,.ifc 77 (.op id ver p)] H K:=by
 intro β F w vs hs hv
 obtain ⟨u,us,rfl,h1,h2⟩:=BQ.cons.1 hv
 obtain ⟨u2,us2,rfl,h3,h4⟩:=BQ.cons.1 h2
 rw [BQ.nil] at h4; subst h4
 -- the two arguments
 have e1:u = .iface 45 (.int .i64 n):=by
  rcases h1 with h | h | ⟨xs0,h,rfl⟩
  ·cases h
  ·cases h
  ·rw [Ak] at h
   obtain ⟨v,rfl,vs,h,rfl⟩:=h
   rw [Ak] at h
   obtain ⟨rfl,_⟩:=h
   rfl
 obtain ⟨b,o,hbo,rfl⟩:∃ b o,β id ver=some (b,o)∧u2 = .iface 77 (.pointer (some ⟨b,o+J8 p,none⟩)):=by
  rcases h3 with h | h | ⟨xs0,h,rfl⟩
  ·cases h
  ·cases h
  ·rw [Ak] at h
   obtain ⟨v,rfl,vs,h,rfl⟩:=h
   rw [Ak] at h
   obtain ⟨_,b,o,hb,rfl⟩:=h
   exact ⟨b,o,hb,rfl⟩
 subst e1
 have hgl:=hs.glob.at CX.k
 have hg:w.cell? ⟨0,0,none⟩=some (.iface 156 (.agg #[.pointer (some ⟨10,38,none⟩)])):=hgl 0 _ rfl
 have hrow:∀ c w,Ak c w (i64 n) [.int .i64 n]:=fun c w=>by rw [Ak]; exact ⟨rfl,rfl⟩
 obtain ⟨_,_,ht⟩:=hs.store ho hbo hs2 (hrow _ _)
 obtain ⟨t1,t2⟩:=ht 0 (by simp)
 obtain ⟨old,hold⟩:=Option.isSome_iff_exists.1 t1
 refine (BoW n ⟨b,o+J8 p,none⟩ old w hg hold t2).mono ?_
 rintro e w' ⟨rfl,rfl⟩
 have hst:=((((WW.refl (F:=F) hs.lt).alloc (.cells #[.pointer (some ⟨b,o+J8 p,none⟩)] 77)).alloc (.cells #[.pointer (some ⟨10,77,none⟩),.pointer (some ⟨w.heap.size,0,none⟩),.int .u64 150] 119)).alloc (.cells #[.pointer (some ⟨10,77,none⟩),.pointer (some ⟨w.heap.size,0,none⟩),.int .u64 150] 119)).alloc (.cells #[.int .i64 n] 45)
 obtain ⟨k1,k2,_⟩:=(hst.sim hs).store ho hbo hs2 (hrow _ _)
 exact ⟨_,tb true,β,_,F,rfl,hk,k1,hst.later.trans k2,Rep.of_val⟩
theorem Btj {n:Int}:BD Tryz.prog 11 [eno n] (fun x=>x=i64 n):=by
 refine Au.toPureV (AfE (by simp) ?_)
 simp -dsimp (disch:=first | assumption | omega) only [↓Ag,Ae,Ai,Ah,eq_self,Nat.reduceEqDiff,↓reduceIte,reduceCtorEq,↓YI]
 refine BfA (x:=i64 ((0:Nat):Int)) (x':=i64 n) rfl (by rw [Am4]; rfl) ?_
 simp -dsimp (disch:=first | assumption | omega) only [↓Ag,Ae,Ai,Ah,eq_self,Nat.reduceEqDiff,↓reduceIte,reduceCtorEq,↓YI]
theorem BrP:BD Tryz.prog 11 [.val .nilIface] (fun x=>x=i64 ((0:Nat):Int)):=by
 refine Au.toPureV (AfE (by simp) ?_)
 simp -dsimp (disch:=first | assumption | omega) only [↓Ag,Ae,Ai,Ah,eq_self,Nat.reduceEqDiff,↓reduceIte,reduceCtorEq,↓YI]
end
section
open Go.RowKit
variable [AL] [CX]
abbrev ide (x:TV):TV := .ifc 111 x
theorem Asn {n:Int} {j:List UInt8} {id ver:Nat} {p:List (Nat×Nat)} {x x':TV} {H:List Ob} {K:TV→List Ob→Prop} (hj:j.length=20) (ho:H[id]?=some (.obj ver x)) (hs2:Aes p x (i64 n)=some x') (hk:K (tb true) (H.set id (.obj ver x'))) :
  Au Tryz.prog 25 [ide (.fp (.agg [.arr 20 1 (j.map by8),i64 n])),.ifc 77 (.op id ver p)] H K:=by
 intro β F w vs hs hv
 obtain ⟨u,us,rfl,h1,h2⟩:=BQ.cons.1 hv
 obtain ⟨u2,us2,rfl,h3,h4⟩:=BQ.cons.1 h2
 rw [BQ.nil] at h4; subst h4
 -- the two arguments
 obtain ⟨pb,po,rfl,hcell⟩:∃ pb po,u = .iface 111 (.pointer (some ⟨pb,po,none⟩))∧w.cell? ⟨pb,po+20,none⟩=some (.int .i64 n):=by
  rcases h1 with h | h | ⟨xs0,h,rfl⟩
  ·cases h
  ·cases h
  ·rw [Ak] at h
   obtain ⟨v,rfl,vs,h,rfl⟩:=h
   rw [Ak] at h
   obtain ⟨b,off,ws,rfl,hF,hr,hc⟩:=h
   refine ⟨b,off,rfl,?_⟩
   rw [Ak,Am] at hr
   obtain ⟨a1,a2,rfl,k1,k2⟩:=hr
   rw [Ak] at k1
   rw [Am] at k2
   obtain ⟨b1,b2,rfl,k3,k4⟩:=k2
   rw [Ak] at k3
   have hl:=k1.2.2.length
   rw [CZ (k:=1) (fun x hx=>by obtain ⟨b,_,rfl⟩:=List.mem_map.1 hx; rfl),List.length_map,hj] at hl
   refine hc 20 _ ?_
   rw [List.getElem?_append_right (by omega),hl,k3.1]; rfl
 obtain ⟨b,o,hbo,rfl⟩:∃ b o,β id ver=some (b,o)∧u2 = .iface 77 (.pointer (some ⟨b,o+J8 p,none⟩)):=by
  rcases h3 with h | h | ⟨xs0,h,rfl⟩
  ·cases h
  ·cases h
  ·rw [Ak] at h
   obtain ⟨v,rfl,vs,h,rfl⟩:=h
   rw [Ak] at h
   obtain ⟨_,b,o,hb,rfl⟩:=h
   exact ⟨b,o,hb,rfl⟩
 have hgl:=hs.glob.at CX.k
 have hg:w.cell? ⟨0,0,none⟩=some (.iface 156 (.agg #[.pointer (some ⟨10,38,none⟩)])):=hgl 0 _ rfl
 have hrow:∀ c w,Ak c w (i64 n) [.int .i64 n]:=fun c w=>by rw [Ak]; exact ⟨rfl,rfl⟩
 obtain ⟨_,_,ht⟩:=hs.store ho hbo hs2 (hrow _ _)
 obtain ⟨t1,t2⟩:=ht 0 (by simp)
 obtain ⟨old,hold⟩:=Option.isSome_iff_exists.1 t1
 refine (A2B n pb po ⟨b,o+J8 p,none⟩ old w hcell hg hold t2).mono ?_
 rintro e w' ⟨rfl,rfl⟩
 have hst:=((((WW.refl (F:=F) hs.lt).alloc (.cells #[.pointer (some ⟨b,o+J8 p,none⟩)] 77)).alloc (.cells #[.pointer (some ⟨10,77,none⟩),.pointer (some ⟨w.heap.size,0,none⟩),.int .u64 150] 119)).alloc (.cells #[.pointer (some ⟨10,77,none⟩),.pointer (some ⟨w.heap.size,0,none⟩),.int .u64 150] 119)).alloc (.cells #[.int .i64 n] 45)
 obtain ⟨k1,k2,_⟩:=(hst.sim hs).store ho hbo hs2 (hrow _ _)
 exact ⟨_,tb true,β,_,F,rfl,hk,k1,hst.later.trans k2,Rep.of_val⟩
theorem Bo2 {n:Int} {j:List UInt8} (hj:j.length=20):BD Tryz.prog 11 [ide (.fp (.agg [.arr 20 1 (j.map by8),i64 n]))] (fun x=>x=i64 n):=by
 refine Au.toPureV (AfE (by simp) ?_)
 simp -dsimp (disch:=first | assumption | omega) only [↓Ag,Ae,Ai,Ah,eq_self,Nat.reduceEqDiff,↓reduceIte,reduceCtorEq,↓YI]
 refine Asn hj (x:=i64 ((0:Nat):Int)) (x':=i64 n) rfl (by rw [Am4]; rfl) ?_
 simp -dsimp (disch:=first | assumption | omega) only [↓Ag,Ae,Ai,Ah,eq_self,Nat.reduceEqDiff,↓reduceIte,reduceCtorEq,↓YI]
end
section
open Go.RowKit
variable [AL]
variable {P:Program}
def Apr (P:Program) (f:FuncId) (args:List TV) (R:TV→Prop) (RP:Value→Prop):Prop :=
 ∀ (β:Nat→Nat→Option (Nat×Nat)) (F:Nat→Prop) (w:World) (vs:List Value),((∀ b,F b→b<w.heap.size)∧QX F w)→BQ ⟨β,[],F⟩ w args vs →
  Calls P f vs.toArray w fun e w'=>∃ F',WW F w F' w'∧((∃ v x,e = .returned v∧R x∧Rep ⟨β,[],fun b=>F' b∧w.heap.size≤b⟩ w' x v)∨∃ u,e = .panicked [{ v:=u,recovered:=false }]∧RP u)
theorem Apr.mono {f:FuncId} {args:List TV} {R R':TV→Prop} {RP RP':Value→Prop} (h:Apr P f args R RP) (hr:∀ x,R x→R' x) (hp:∀ u,RP u→RP' u):Apr P f args R' RP' :=
 fun β F w vs hF hv=>(h β F w vs hF hv).mono fun _ _ ⟨F',h1,h2⟩=>⟨F',h1,h2.imp (fun ⟨v,x,k1,k2,k3⟩=>⟨v,x,k1,hr _ k2,k3⟩) fun ⟨u,k1,k2⟩=>⟨u,k1,hp _ k2⟩⟩
def Asy (x x':TV):Prop:=∀ (c:Ctx) (w:World) (v:Value),AsA c w x v→AsA c w x' v
inductive Aim:List TV→List TV→Prop
 | nil:Aim [] []
 | cons {x x':TV} {xs xs':List TV}:Asy x x'→Aim xs xs'→Aim (x::xs) (x'::xs')
theorem Asy.refl {x:TV}:Asy x x:=fun _ _ _ h=>h
theorem Aim.refl:∀ {xs:List TV},Aim xs xs
 | [] => .nil
 | _::_ => .cons Asy.refl Aim.refl
theorem Aim.rep {c:Ctx} {w:World} {xs xs':List TV} (h:Aim xs xs'):∀ {vs:List Value},BQ c w xs vs→BQ c w xs' vs:=by
 induction h with
 | nil=>exact fun h=>h
 | cons h1 h2 ih =>
  intro vs hv
  rw [BQ.cons] at hv ⊢
  obtain ⟨u,us,rfl,k1,k2⟩:=hv
  exact ⟨u,us,rfl,h1 _ _ _ k1,ih k2⟩
theorem AjK {k:Nat}:Asy (.val (.slice none 0 0)) (.sl k []):=fun c w v h=>by
 have hv:v = .slice none 0 0:=by
  have h':Rep c w (.val (.slice none 0 0)) v := .inl h
  rw [Rep.val] at h'; exact h'
 subst hv
 refine .inr (.inr ⟨[.slice none 0 0],?_,rfl⟩)
 rw [Ak]
 exact ⟨by simp,.inl ⟨rfl,none,0,rfl,by omega⟩⟩
theorem BD.argL {f:FuncId} {args args':List TV} {R:TV→Prop} (h:BD P f args' R) (hc:Aim args args'):BD P f args R :=
 fun β F w vs hF hv=>h β F w vs hF (hc.rep hv)
theorem BD.conv {f:FuncId} {args:List TV} {R R':TV→Prop} (h:BD P f args R) (hc:∀ x,R x→∃ x',R' x'∧∀ c w v,Rep c w x v→Rep c w x' v):BD P f args R' :=
 fun β F w vs hF hv=>(h β F w vs hF hv).mono fun _ _ ⟨v,x,F',h1,h2,h3,h4⟩=>by
  obtain ⟨x',k1,k2⟩:=hc x h2
  exact ⟨v,x',F',h1,k1,k2 _ _ _ h3,h4⟩
theorem Aim.tup {xs xs':List TV} (h:Aim xs xs'):∀ (c:Ctx) (w:World) (v:Value),Rep c w (.tup xs) v→Rep c w (.tup xs') v:=by
 rintro c w v ((h1 | h1 | ⟨us,h1,_⟩) | ⟨ys,vs,h1,h2,h3⟩)
 ·cases h1
 ·cases h1
 ·rw [Ak] at h1; exact h1.elim
 ·cases h1
  exact .inr ⟨xs',vs,rfl,h2,h.rep h3⟩
end
section
variable [AL]
set_option maxRecDepth 100000
def AbW:Af := .draw 4 [mv_ 43 6,po_ 44 (.nilc (.t 43)),po_ 45 (.fieldA 0 0 (.t 44)),po_ 46 (.load false 1 (.t 45)),po_ 47 (.load true 20 (.t 9)),mv_ 48 11,⟨none,.s (.mupd (.arr 20) (.t 46) (.t 47) (.t 48)),none⟩] [2,6,17,18,19]
def Ac3:Af := .seq (.ops [po_ 36 (.fieldA 1 1 (.t 8)),po_ 37 (.load false 1 (.t 36)),so_ 38 (.call 21 [.t 37]),mv_ 35 38,po_ 39 (.ext 0 (.t 35)),po_ 40 (.ext 1 (.t 35)),mv_ 11 39,mv_ 12 40] [2,6,9,11,12,17,18,19])
 (.seq (.ops [mv_ 41 12,po_ 42 (.eqN 1 (.t 41) (.c .nilIface) false)] [2,6,9,11,17,18,19,42])
 (.cond (.t 42)
 AbW
 (.skip)))
def AcX:Af := .seq (.seq (.ops [mv_ 28 10,po_ 29 (.eqN 1 (.t 28) (.c .nilIface) true),mv_ 30 29,⟨some 31,.p (.fieldA 0 0 (.t 8)),some ⟨30,false⟩⟩,⟨some 32,.p (.load false 1 (.t 31)),some ⟨30,false⟩⟩,⟨some 33,.p (.bin 25 .neq (.t 32) (ci_ 2)),some ⟨30,false⟩⟩,po_ 34 (.pick (.t 30) (.c (.bool true)) (.t 33))] [2,6,8,9,17,18,19,34])
 (.cond (.t 34)
 (.exit 1)
 (.skip)))
 Ac3
def Adh:Af := .seq (.ops [po_ 24 (.load true 2 (.t 8)),so_ 25 (.call 17 [.t 24]),mv_ 23 25,po_ 26 (.ext 0 (.t 23)),po_ 27 (.ext 1 (.t 23)),so_ 9 (.alloc (.arr 20 1 [.val (.int .u8 ((0:Nat):Int)),.val (.int .u8 ((0:Nat):Int)),.val (.int .u8 ((0:Nat):Int)),.val (.int .u8 ((0:Nat):Int)),.val (.int .u8 ((0:Nat):Int)),.val (.int .u8 ((0:Nat):Int)),.val (.int .u8 ((0:Nat):Int)),.val (.int .u8 ((0:Nat):Int)),.val (.int .u8 ((0:Nat):Int)),.val (.int .u8 ((0:Nat):Int)),.val (.int .u8 ((0:Nat):Int)),.val (.int .u8 ((0:Nat):Int)),.val (.int .u8 ((0:Nat):Int)),.val (.int .u8 ((0:Nat):Int)),.val (.int .u8 ((0:Nat):Int)),.val (.int .u8 ((0:Nat):Int)),.val (.int .u8 ((0:Nat):Int)),.val (.int .u8 ((0:Nat):Int)),.val (.int .u8 ((0:Nat):Int)),.val (.int .u8 ((0:Nat):Int))])),⟨none,.s (.store 20 (.t 9) (.t 26)),none⟩,mv_ 10 27] [2,6,8,9,10,17,18,19])
 AcX
def Acm:Af := .seq (.block 1 (.seq (.ops [po_ 21 (.idxA 2 (.t 17) (.t 19)),po_ 22 (.load true 2 (.t 21)),so_ 8 (.alloc (.agg [.val (.int .i64 ((0:Nat):Int)),.val (.slice none 0 0)])),⟨none,.s (.store 2 (.t 8) (.t 22)),none⟩] [2,6,8,17,18,19])
 Adh))
 (.ops [po_ 49 (.bin 3 .add (.t 19) (ci_ 1)),mv_ 19 49] [2,6,17,18,19])
def Ac5:Af := .seq (.cond (.t 20)
 (.skip)
 (.exit 0))
 Acm
def AcY:Af := .seq (.ops [po_ 20 (.bin 3 .lss (.t 19) (.t 18))] [2,6,17,18,19,20])
 Ac5
def AcI:Af := .block 0 (.loop [2,6,17,18,19] AcY)
def AcQ:Af := .seq (.seq (.ops [mv_ 50 6,po_ 51 (.load true 20 (.t 2)),so_ 52 (.call 22 [.t 50,.t 51,.c (.string (str []))]),mv_ 13 52] [6,13])
 (.seq (.ops [mv_ 53 13,po_ 54 (.eqN 1 (.t 53) (.c .nilIface) true)] [6,13,54])
 (.cond (.t 54)
 (.seq (.ops [mv_ 55 13,po_ 4 (.mov (.c (.slice none 0 0))),mv_ 5 55] [4,5])
  (.ret))
 (.skip))))
 (.seq (.ops [mv_ 56 6,po_ 57 (.nilc (.t 56)),po_ 58 (.fieldA 1 1 (.t 57)),po_ 59 (.load false 1 (.t 58)),so_ 60 (.call 23 [.t 59]),mv_ 4 60,po_ 5 (.mov (.c .nilIface))] [4,5])
 (.ret))
def Aba:Af := .seq (.seq (.ops [mv_ 17 1,po_ 18 (.lenV (.t 17)),po_ 19 (.mov (ci_ 0))] [2,6,17,18,19])
 AcI)
 AcQ
def Aa4:Af := .seq (.ops [so_ 14 (.mkm (.arr 20) none),⟨some 15,.p (.build [.val (.map none),.val (.slice none 0 0)] [1,1] [⟨0,.t 14⟩]),none⟩,so_ 16 (.box (.t 15)),mv_ 6 16] [1,2,6])
 Aba
def AiT:Af := .seq (.ops [so_ 2 (.box (.t 0)),po_ 4 (.mov (.c (.slice none 0 0))),po_ 5 (.mov (.c .nilIface))] [1,2])
 Aa4
def AiV:List VR:=[.tmp 4,.tmp 5]
theorem Aoe:Tryz.f8.body.bind (trC Tryz.prog Tryz.f8.ntmps)=some (er AiT):=by kernel_rfl
theorem AnN:trR Tryz.prog Tryz.f8.results.toList=some AiV:=by kernel_rfl
def AhS:=Aa AbW.eq_1
def AhQ:=Aa Ac3.eq_1
def RD:=Aa AcX.eq_1
def AhI:=Aa Adh.eq_1
def Ah6:=Aa Acm.eq_1
def Ze:=Aa Ac5.eq_1
def ZU:=Aa AcY.eq_1
def AhU:=Aa AcI.eq_1
def AhR:=Aa AcQ.eq_1
def AgK:=Aa Aba.eq_1
def Ahd:=Aa Aa4.eq_1
def Alo:=Aa AiT.eq_1
theorem Sz {K:TV→Prop} {e:Env} {H:List Ob}:res AiV e H K=res [.tmp 4,.tmp 5] e H K:=Ad rfl
def Amh:=D7 61 Tryz.func8 Aoe AnN rfl
def QZ:Af := .seq (.ops [mv_ 30 7,po_ 31 (.lenV (.t 30)),po_ 32 (.bin 3 .eql (.t 31) (ci_ 0)),mv_ 33 32,⟨some 34,.p (.mov (.t 2)),some ⟨33,true⟩⟩,⟨some 35,.p (.bin 9 .neq (.t 34) (.c (.string (str [])))),some ⟨33,true⟩⟩,po_ 36 (.pick (.t 33) (.t 35) (.c (.bool false))),mv_ 29 36] [0,2,7,29])
 (.cond (.t 29)
 (.seq (.ops [po_ 37 (.iface 45 (ci_ 21)),mv_ 6 37] [6])
  (.ret))
 (.skip))
def QH:Af := .cond (.t 22)
 (.seq (.ops [po_ 25 (.load true 20 (.t 4)),⟨some 26,.p (.build [.arr 20 1 [.val (.int .u8 ((0:Nat):Int)),.val (.int .u8 ((0:Nat):Int)),.val (.int .u8 ((0:Nat):Int)),.val (.int .u8 ((0:Nat):Int)),.val (.int .u8 ((0:Nat):Int)),.val (.int .u8 ((0:Nat):Int)),.val (.int .u8 ((0:Nat):Int)),.val (.int .u8 ((0:Nat):Int)),.val (.int .u8 ((0:Nat):Int)),.val (.int .u8 ((0:Nat):Int)),.val (.int .u8 ((0:Nat):Int)),.val (.int .u8 ((0:Nat):Int)),.val (.int .u8 ((0:Nat):Int)),.val (.int .u8 ((0:Nat):Int)),.val (.int .u8 ((0:Nat):Int)),.val (.int .u8 ((0:Nat):Int)),.val (.int .u8 ((0:Nat):Int)),.val (.int .u8 ((0:Nat):Int)),.val (.int .u8 ((0:Nat):Int)),.val (.int .u8 ((0:Nat):Int))],.val (.int .i64 ((0:Nat):Int))] [20,1] [⟨0,.t 25⟩,⟨1,.c (.int .i64 ((50:Nat):Int))⟩]),none⟩,so_ 27 (.box (.t 26)),po_ 28 (.iface 111 (.t 27)),mv_ 6 28] [6])
  (.ret))
 QZ
def QV:Af := .seq (.seq (.ops [mv_ 55 0,po_ 56 (.fieldA 2 2 (.t 10)),po_ 57 (.load true 20 (.t 56)),mv_ 58 11,po_ 59 (.bin 9 .add (.t 58) (.c (.string (str [47])))),so_ 60 (.call 22 [.t 55,.t 57,.t 59]),mv_ 12 60] [0,2,12,38,39,40])
 (.seq (.ops [mv_ 61 12,po_ 62 (.eqN 1 (.t 61) (.c .nilIface) true)] [0,2,12,38,39,40,62])
 (.cond (.t 62)
 (.seq (.ops [mv_ 63 12,mv_ 6 63] [6])
  (.ret))
 (.skip))))
 (.exit 2)
def QD:Af := .draw 8 [mv_ 71 0,mv_ 72 0,po_ 73 (.nilc (.t 72)),po_ 74 (.fieldA 1 1 (.t 73)),po_ 75 (.load false 1 (.t 74)),mv_ 76 11,po_ 77 (.fieldA 0 0 (.t 10)),po_ 78 (.load false 1 (.t 77)),po_ 79 (.fieldA 2 2 (.t 10)),po_ 80 (.load true 20 (.t 79)),⟨some 81,.p (.build [.val (.string (str [])),.val (.int .i64 ((0:Nat):Int)),.arr 20 1 [.val (.int .u8 ((0:Nat):Int)),.val (.int .u8 ((0:Nat):Int)),.val (.int .u8 ((0:Nat):Int)),.val (.int .u8 ((0:Nat):Int)),.val (.int .u8 ((0:Nat):Int)),.val (.int .u8 ((0:Nat):Int)),.val (.int .u8 ((0:Nat):Int)),.val (.int .u8 ((0:Nat):Int)),.val (.int .u8 ((0:Nat):Int)),.val (.int .u8 ((0:Nat):Int)),.val (.int .u8 ((0:Nat):Int)),.val (.int .u8 ((0:Nat):Int)),.val (.int .u8 ((0:Nat):Int)),.val (.int .u8 ((0:Nat):Int)),.val (.int .u8 ((0:Nat):Int)),.val (.int .u8 ((0:Nat):Int)),.val (.int .u8 ((0:Nat):Int)),.val (.int .u8 ((0:Nat):Int)),.val (.int .u8 ((0:Nat):Int)),.val (.int .u8 ((0:Nat):Int))],.val (.int .i64 ((0:Nat):Int)),.val (.int .i64 ((0:Nat):Int))] [1,1,20,1,1] [⟨0,.t 76⟩,⟨1,.t 78⟩,⟨2,.t 80⟩]),none⟩,⟨some 82,.s (.bslice 24 1 (.agg [.val (.string (str [])),.val (.int .i64 ((0:Nat):Int)),.arr 20 1 [.val (.int .u8 ((0:Nat):Int)),.val (.int .u8 ((0:Nat):Int)),.val (.int .u8 ((0:Nat):Int)),.val (.int .u8 ((0:Nat):Int)),.val (.int .u8 ((0:Nat):Int)),.val (.int .u8 ((0:Nat):Int)),.val (.int .u8 ((0:Nat):Int)),.val (.int .u8 ((0:Nat):Int)),.val (.int .u8 ((0:Nat):Int)),.val (.int .u8 ((0:Nat):Int)),.val (.int .u8 ((0:Nat):Int)),.val (.int .u8 ((0:Nat):Int)),.val (.int .u8 ((0:Nat):Int)),.val (.int .u8 ((0:Nat):Int)),.val (.int .u8 ((0:Nat):Int)),.val (.int .u8 ((0:Nat):Int)),.val (.int .u8 ((0:Nat):Int)),.val (.int .u8 ((0:Nat):Int)),.val (.int .u8 ((0:Nat):Int)),.val (.int .u8 ((0:Nat):Int))],.val (.int .i64 ((0:Nat):Int)),.val (.int .i64 ((0:Nat):Int))]) [⟨0,.t 81⟩]),none⟩,so_ 83 (.app 24 64 75 (.t 75) (.t 82)),po_ 84 (.nilc (.t 71)),po_ 85 (.fieldA 1 1 (.t 84)),⟨none,.s (.store 1 (.t 85) (.t 83)),none⟩] [0,2,38,39,40]
def Q8:Af := .seq (.seq (.ops [mv_ 64 0,po_ 65 (.nilc (.t 64)),po_ 66 (.fieldA 1 1 (.t 65)),po_ 67 (.load false 1 (.t 66)),po_ 68 (.lenV (.t 67)),po_ 69 (.bin 3 .geq (.t 68) (ci_ 2000))] [0,2,10,11,38,39,40,69])
 (.cond (.t 69)
 (.seq (.ops [po_ 70 (.iface 45 (ci_ 70)),mv_ 6 70] [6])
  (.ret))
 (.skip)))
 QD
def QJ:Af := .seq (.seq (.ops [po_ 52 (.fieldA 0 0 (.t 10)),po_ 53 (.load false 1 (.t 52)),po_ 54 (.bin 73 .eql (.t 53) (ci_ 16384))] [0,2,10,11,38,39,40,54])
 (.cond (.t 54)
 QV
 (.skip)))
 Q8
def Qw:Af := .seq (.seq (.ops [mv_ 48 11,po_ 49 (.lenS (.t 48)),po_ 50 (.bin 3 .gtr (.t 49) (ci_ 100))] [0,2,10,11,38,39,40,50])
 (.cond (.t 50)
 (.seq (.ops [po_ 51 (.iface 45 (ci_ 71)),mv_ 6 51] [6])
  (.ret))
 (.skip)))
 QJ
def QC:Af := .seq (.ops [mv_ 44 2,po_ 45 (.fieldA 1 1 (.t 10)),po_ 46 (.load false 1 (.t 45)),po_ 47 (.bin 9 .add (.t 44) (.t 46)),mv_ 11 47] [0,2,10,11,38,39,40])
 Qw
def Q5:Af := .seq (.block 2 (.seq (.ops [po_ 42 (.idxA 22 (.t 38) (.t 40)),po_ 43 (.load true 22 (.t 42)),so_ 10 (.alloc (.agg [.val (.int .i64 ((0:Nat):Int)),.val (.string (str [])),.arr 20 1 [.val (.int .u8 ((0:Nat):Int)),.val (.int .u8 ((0:Nat):Int)),.val (.int .u8 ((0:Nat):Int)),.val (.int .u8 ((0:Nat):Int)),.val (.int .u8 ((0:Nat):Int)),.val (.int .u8 ((0:Nat):Int)),.val (.int .u8 ((0:Nat):Int)),.val (.int .u8 ((0:Nat):Int)),.val (.int .u8 ((0:Nat):Int)),.val (.int .u8 ((0:Nat):Int)),.val (.int .u8 ((0:Nat):Int)),.val (.int .u8 ((0:Nat):Int)),.val (.int .u8 ((0:Nat):Int)),.val (.int .u8 ((0:Nat):Int)),.val (.int .u8 ((0:Nat):Int)),.val (.int .u8 ((0:Nat):Int)),.val (.int .u8 ((0:Nat):Int)),.val (.int .u8 ((0:Nat):Int)),.val (.int .u8 ((0:Nat):Int)),.val (.int .u8 ((0:Nat):Int))]])),⟨none,.s (.store 22 (.t 10) (.t 43)),none⟩] [0,2,10,38,39,40])
 QC))
 (.ops [po_ 86 (.bin 3 .add (.t 40) (ci_ 1)),mv_ 40 86] [0,2,38,39,40])
def PD:Af := .seq (.cond (.t 41)
 (.skip)
 (.exit 1))
 Q5
def JZ:Af := .seq (.ops [po_ 41 (.bin 3 .lss (.t 40) (.t 39))] [0,2,38,39,40,41])
 PD
def Pv:Af := .block 1 (.ownB 0 [(1,1)] 24 (.loop [0,2,38,39,40] JZ))
def JW:Af := .seq (.ops [po_ 6 (.mov (.c .nilIface))] [6])
 (.ret)
def JX:Af := .seq (.seq (.ops [mv_ 38 7,po_ 39 (.lenV (.t 38)),po_ 40 (.mov (ci_ 0))] [0,2,38,39,40])
 Pv)
 JW
def PO:Af := .seq (.block 0 (.seq (.ops [mv_ 23 8,po_ 24 (.un .not (.t 23)),mv_ 22 24] [0,2,4,7,22])
 QH))
 JX
def PE:Af := .seq (.draw 8 [mv_ 14 0,po_ 15 (.nilc (.t 14)),po_ 16 (.fieldA 0 0 (.t 15)),po_ 17 (.load false 1 (.t 16)),po_ 18 (.load true 20 (.t 4)),po_ 19 (.gen (.look (.arr 20) (.val (.slice none 0 0)) true) [.t 17,.t 18]),mv_ 13 19,po_ 20 (.ext 0 (.t 13)),po_ 21 (.ext 1 (.t 13)),mv_ 7 20,mv_ 8 21] [0,2,4,7,8])
 PO
def VJ:Af := .seq (.ops [so_ 4 (.box (.t 1)),po_ 6 (.mov (.c .nilIface))] [0,2,4])
 PE
def J4:List VR:=[.tmp 6]
theorem Afx:Tryz.f22.body.bind (trC Tryz.prog Tryz.f22.ntmps)=some (er VJ):=by kernel_rfl
theorem AeC:trR Tryz.prog Tryz.f22.results.toList=some J4:=by kernel_rfl
def Jr:=Aa QZ.eq_1
def ET:=Aa QH.eq_1
def Yj:=Aa QV.eq_1
def Zd:=Aa QD.eq_1
def N8:=Aa Q8.eq_1
def JB:=Aa QJ.eq_1
def EP:=Aa Qw.eq_1
def Fb:=Aa QC.eq_1
def Ey:=Aa Q5.eq_1
def Df:=Aa PD.eq_1
def Dc:=Aa JZ.eq_1
def Nw:=Aa Pv.eq_1
def XN:=Aa JW.eq_1
def Nu:=Aa JX.eq_1
def Eh:=Aa PO.eq_1
def Xz:=Aa PE.eq_1
def Acd:=Aa VJ.eq_1
theorem Ci {K:TV→Prop} {e:Env} {H:List Ob}:res J4 e H K=res [.tmp 6] e H K:=Ad rfl
def AdL:=D7 87 Tryz.func22 Afx AeC rfl
def Aee:Af := .seq (.ops [po_ 9 (.load true 20 (.t 2)),mv_ 10 1,so_ 11 (.call 24 [.t 9,.c (.string (str [])),.t 10,.c (.slice none 0 0)]),mv_ 8 11,po_ 12 (.ext 0 (.t 8)),po_ 13 (.ext 1 (.t 8)),mv_ 6 12,mv_ 7 13] [6,7])
 (.seq (.seq (.ops [mv_ 14 7,po_ 15 (.bin 3 .neq (.t 14) (ci_ 0))] [6,7,15])
 (.cond (.t 15)
 (.seq (.ops [mv_ 16 7,po_ 4 (.mov (.c (.slice none 0 0))),mv_ 5 16] [4,5])
  (.ret))
 (.skip)))
 (.seq (.ops [mv_ 17 6,so_ 18 (.call 18 [.t 17]),mv_ 4 18,po_ 5 (.mov (ci_ 0))] [4,5])
 (.ret)))
def Aj8:Af := .seq (.ops [so_ 2 (.box (.t 0)),po_ 4 (.mov (.c (.slice none 0 0))),po_ 5 (.mov (ci_ 0))] [1,2])
 Aee
def Akj:List VR:=[.tmp 4,.tmp 5]
theorem ApH:Tryz.f9.body.bind (trC Tryz.prog Tryz.f9.ntmps)=some (er Aj8):=by kernel_rfl
theorem Apd:trR Tryz.prog Tryz.f9.results.toList=some Akj:=by kernel_rfl
def Ajv:=Aa Aee.eq_1
def Amx:=Aa Aj8.eq_1
theorem Ahm {K:TV→Prop} {e:Env} {H:List Ob}:res Akj e H K=res [.tmp 4,.tmp 5] e H K:=Ad rfl
def Anr:=D7 19 Tryz.func9 ApH Apd rfl
def Aeq:Af := .seq (.ops [mv_ 89 13,mv_ 90 15,po_ 91 (.idxA 22 (.t 89) (.t 90)),po_ 92 (.fieldA 2 2 (.t 91)),po_ 93 (.load true 20 (.t 92)),mv_ 94 16,po_ 95 (.bin 9 .add (.t 94) (.c (.string (str [47])))),mv_ 96 2,mv_ 97 3,so_ 98 (.call 24 [.t 93,.t 95,.t 96,.t 97]),mv_ 88 98,po_ 99 (.ext 0 (.t 88)),po_ 100 (.ext 1 (.t 88)),mv_ 17 99,mv_ 18 100] [1,2,13,15,17,18])
 (.seq (.seq (.ops [mv_ 101 18,po_ 102 (.bin 3 .neq (.t 101) (ci_ 0))] [1,2,13,15,17,18,102])
 (.cond (.t 102)
 (.seq (.ops [mv_ 103 18,po_ 8 (.mov (.c (.slice none 0 0))),mv_ 9 103] [8,9])
  (.ret))
 (.skip)))
 (.seq (.ops [mv_ 104 17,mv_ 3 104] [1,2,3,13,15])
 (.exit 3)))
def Ad8:Af := .cond (.t 87)
 Aeq
 (.skip)
def Ael:Af := .draw 7 [mv_ 108 3,mv_ 109 16,mv_ 110 13,mv_ 111 15,po_ 112 (.idxA 22 (.t 110) (.t 111)),po_ 113 (.fieldA 0 0 (.t 112)),po_ 114 (.load false 1 (.t 113)),mv_ 115 13,mv_ 116 15,po_ 117 (.idxA 22 (.t 115) (.t 116)),po_ 118 (.fieldA 2 2 (.t 117)),po_ 119 (.load true 20 (.t 118)),⟨some 120,.p (.build [.val (.string (str [])),.val (.int .i64 ((0:Nat):Int)),.arr 20 1 [.val (.int .u8 ((0:Nat):Int)),.val (.int .u8 ((0:Nat):Int)),.val (.int .u8 ((0:Nat):Int)),.val (.int .u8 ((0:Nat):Int)),.val (.int .u8 ((0:Nat):Int)),.val (.int .u8 ((0:Nat):Int)),.val (.int .u8 ((0:Nat):Int)),.val (.int .u8 ((0:Nat):Int)),.val (.int .u8 ((0:Nat):Int)),.val (.int .u8 ((0:Nat):Int)),.val (.int .u8 ((0:Nat):Int)),.val (.int .u8 ((0:Nat):Int)),.val (.int .u8 ((0:Nat):Int)),.val (.int .u8 ((0:Nat):Int)),.val (.int .u8 ((0:Nat):Int)),.val (.int .u8 ((0:Nat):Int)),.val (.int .u8 ((0:Nat):Int)),.val (.int .u8 ((0:Nat):Int)),.val (.int .u8 ((0:Nat):Int)),.val (.int .u8 ((0:Nat):Int))],.val (.int .i64 ((0:Nat):Int)),.val (.int .i64 ((0:Nat):Int))] [1,1,20,1,1] [⟨0,.t 109⟩,⟨1,.t 114⟩,⟨2,.t 119⟩]),none⟩,⟨some 121,.s (.bslice 24 1 (.agg [.val (.string (str [])),.val (.int .i64 ((0:Nat):Int)),.arr 20 1 [.val (.int .u8 ((0:Nat):Int)),.val (.int .u8 ((0:Nat):Int)),.val (.int .u8 ((0:Nat):Int)),.val (.int .u8 ((0:Nat):Int)),.val (.int .u8 ((0:Nat):Int)),.val (.int .u8 ((0:Nat):Int)),.val (.int .u8 ((0:Nat):Int)),.val (.int .u8 ((0:Nat):Int)),.val (.int .u8 ((0:Nat):Int)),.val (.int .u8 ((0:Nat):Int)),.val (.int .u8 ((0:Nat):Int)),.val (.int .u8 ((0:Nat):Int)),.val (.int .u8 ((0:Nat):Int)),.val (.int .u8 ((0:Nat):Int)),.val (.int .u8 ((0:Nat):Int)),.val (.int .u8 ((0:Nat):Int)),.val (.int .u8 ((0:Nat):Int)),.val (.int .u8 ((0:Nat):Int)),.val (.int .u8 ((0:Nat):Int)),.val (.int .u8 ((0:Nat):Int))],.val (.int .i64 ((0:Nat):Int)),.val (.int .i64 ((0:Nat):Int))]) [⟨0,.t 120⟩]),none⟩,so_ 122 (.app 24 64 58 (.t 108) (.t 121)),mv_ 3 122] [1,2,3,13,15]
def Aew:Af := .seq (.seq (.ops [mv_ 105 3,po_ 106 (.lenV (.t 105)),po_ 107 (.bin 3 .geq (.t 106) (ci_ 2000))] [1,2,3,13,15,16,107])
 (.cond (.t 107)
 (.seq (.ops [po_ 8 (.mov (.c (.slice none 0 0))),po_ 9 (.mov (ci_ 70))] [8,9])
  (.ret))
 (.skip)))
 Ael
def Aep:Af := .seq (.seq (.ops [mv_ 82 13,mv_ 83 15,po_ 84 (.idxA 22 (.t 82) (.t 83)),po_ 85 (.fieldA 0 0 (.t 84)),po_ 86 (.load false 1 (.t 85)),po_ 87 (.bin 3 .eql (.t 86) (ci_ 16384))] [1,2,3,13,15,16,87])
 Ad8)
 Aew
def Aec:Af := .seq (.seq (.ops [mv_ 79 16,po_ 80 (.lenS (.t 79)),po_ 81 (.bin 3 .gtr (.t 80) (ci_ 100))] [1,2,3,13,15,16,81])
 (.cond (.t 81)
 (.seq (.ops [po_ 8 (.mov (.c (.slice none 0 0))),po_ 9 (.mov (ci_ 71))] [8,9])
  (.ret))
 (.skip)))
 Aep
def Ad5:Af := .seq (.block 3 (.seq (.ops [mv_ 72 1,mv_ 73 13,mv_ 74 15,po_ 75 (.idxA 22 (.t 73) (.t 74)),po_ 76 (.fieldA 1 1 (.t 75)),po_ 77 (.load false 1 (.t 76)),po_ 78 (.bin 9 .add (.t 72) (.t 77)),mv_ 16 78] [1,2,3,13,15,16])
 Aec))
 (.ops [mv_ 70 15,po_ 71 (.bin 3 .add (.t 70) (ci_ 1)),mv_ 15 71] [1,2,3,13,15])
def Aef:Af := .seq (.seq (.ops [mv_ 66 15,mv_ 67 13,po_ 68 (.lenV (.t 67)),po_ 69 (.bin 3 .lss (.t 66) (.t 68))] [1,2,3,13,15,69])
 (.cond (.t 69)
 (.skip)
 (.exit 2)))
 Ad5
def AdX:Af := .block 2 (.own 3 24 (.loop [1,2,3,13,15] Aef))
def AbV:Af := .seq (.ops [mv_ 123 3,mv_ 8 123,po_ 9 (.mov (ci_ 0))] [8,9])
 (.ret)
def Vk:Af := .seq (.seq (.ops [po_ 15 (.mov (ci_ 0))] [1,2,3,13,15])
 AdX)
 AbV
def Ab8:Af := .seq (.seq (.ops [mv_ 59 13,po_ 60 (.lenV (.t 59)),po_ 61 (.bin 3 .eql (.t 60) (ci_ 0)),mv_ 62 61,⟨some 63,.p (.mov (.t 1)),some ⟨62,true⟩⟩,⟨some 64,.p (.bin 9 .neq (.t 63) (.c (.string (str [])))),some ⟨62,true⟩⟩,po_ 65 (.pick (.t 62) (.t 64) (.c (.bool false)))] [1,2,3,13,65])
 (.cond (.t 65)
 (.seq (.ops [po_ 8 (.mov (.c (.slice none 0 0))),po_ 9 (.mov (ci_ 21))] [8,9])
  (.ret))
 (.skip)))
 Vk
def Ack:Af := .seq (.seq (.ops [mv_ 57 14,po_ 58 (.un .not (.t 57))] [1,2,3,4,10,13,58])
 (.cond (.t 58)
 (.exit 1)
 (.skip)))
 Ab8
def Ac1:Af := .seq (.ops [mv_ 49 2,mv_ 50 10,po_ 51 (.idxA 2 (.t 49) (.t 50)),po_ 52 (.fieldA 1 1 (.t 51)),po_ 53 (.load false 1 (.t 52)),so_ 54 (.call 32 [.t 53]),mv_ 48 54,po_ 55 (.ext 0 (.t 48)),po_ 56 (.ext 1 (.t 48)),mv_ 13 55,mv_ 14 56] [1,2,3,4,10,13,14])
 Ack
def Ab0:Af := .seq (.seq (.ops [mv_ 33 12,po_ 34 (.bin 3 .neq (.t 33) (ci_ 0)),mv_ 35 34,⟨some 36,.p (.load true 20 (.t 11)),some ⟨35,false⟩⟩,⟨some 37,.p (.load true 20 (.t 4)),some ⟨35,false⟩⟩,⟨some 38,.p (.gen (.eqA 20 true) [.t 36,.t 37]),some ⟨35,false⟩⟩,po_ 39 (.pick (.t 35) (.c (.bool true)) (.t 38)),mv_ 40 39,⟨some 41,.p (.mov (.t 2)),some ⟨40,false⟩⟩,⟨some 42,.p (.mov (.t 10)),some ⟨40,false⟩⟩,⟨some 43,.p (.idxA 2 (.t 41) (.t 42)),some ⟨40,false⟩⟩,⟨some 44,.p (.fieldA 0 0 (.t 43)),some ⟨40,false⟩⟩,⟨some 45,.p (.load false 1 (.t 44)),some ⟨40,false⟩⟩,⟨some 46,.p (.bin 3 .neq (.t 45) (ci_ 2)),some ⟨40,false⟩⟩,po_ 47 (.pick (.t 40) (.c (.bool true)) (.t 46))] [1,2,3,4,10,47])
 (.cond (.t 47)
 (.exit 1)
 (.skip)))
 Ac1
def AcJ:Af := .ops [mv_ 23 10,po_ 24 (.bin 3 .add (.t 23) (ci_ 1)),mv_ 10 24] [1,2,3,4,10]
def Acb:Af := .seq (.block 1 (.seq (.ops [mv_ 26 2,mv_ 27 10,po_ 28 (.idxA 2 (.t 26) (.t 27)),po_ 29 (.load true 2 (.t 28)),so_ 30 (.call 7 [.t 29]),mv_ 25 30,po_ 31 (.ext 0 (.t 25)),po_ 32 (.ext 1 (.t 25)),so_ 11 (.alloc (.arr 20 1 [.val (.int .u8 ((0:Nat):Int)),.val (.int .u8 ((0:Nat):Int)),.val (.int .u8 ((0:Nat):Int)),.val (.int .u8 ((0:Nat):Int)),.val (.int .u8 ((0:Nat):Int)),.val (.int .u8 ((0:Nat):Int)),.val (.int .u8 ((0:Nat):Int)),.val (.int .u8 ((0:Nat):Int)),.val (.int .u8 ((0:Nat):Int)),.val (.int .u8 ((0:Nat):Int)),.val (.int .u8 ((0:Nat):Int)),.val (.int .u8 ((0:Nat):Int)),.val (.int .u8 ((0:Nat):Int)),.val (.int .u8 ((0:Nat):Int)),.val (.int .u8 ((0:Nat):Int)),.val (.int .u8 ((0:Nat):Int)),.val (.int .u8 ((0:Nat):Int)),.val (.int .u8 ((0:Nat):Int)),.val (.int .u8 ((0:Nat):Int)),.val (.int .u8 ((0:Nat):Int))])),⟨none,.s (.store 20 (.t 11) (.t 31)),none⟩,mv_ 12 32] [1,2,3,4,10,11,12])
 Ab0))
 AcJ
def U6:Af := .seq (.seq (.ops [mv_ 19 10,mv_ 20 2,po_ 21 (.lenV (.t 20)),po_ 22 (.bin 3 .lss (.t 19) (.t 21))] [1,2,3,4,10,22])
 (.cond (.t 22)
 (.skip)
 (.exit 0)))
 Acb
def AcD:Af := .block 0 (.own 3 24 (.loop [1,2,3,4,10] U6))
def VD:Af := .seq (.ops [po_ 8 (.mov (.c (.slice none 0 0))),po_ 9 (.mov (ci_ 50))] [8,9])
 (.ret)
def Ac7:Af := .seq (.seq (.ops [po_ 10 (.mov (ci_ 0))] [1,2,3,4,10])
 AcD)
 VD
def Aku:Af := .seq (.ops [so_ 4 (.box (.t 0)),po_ 8 (.mov (.c (.slice none 0 0))),po_ 9 (.mov (ci_ 0))] [1,2,3,4])
 Ac7
def Afl:List VR:=[.tmp 8,.tmp 9]
theorem Apx:Tryz.f24.body.bind (trC Tryz.prog Tryz.f24.ntmps)=some (er Aku):=by kernel_rfl
theorem Apj:trR Tryz.prog Tryz.f24.results.toList=some Afl:=by kernel_rfl
def AjB:=Aa Aeq.eq_1
def TM:=Aa Ad8.eq_1
def Ajg:=Aa Ael.eq_1
def AaZ:=Aa Aew.eq_1
def TP:=Aa Aep.eq_1
def NF:=Aa Aec.eq_1
def NK:=Aa Ad5.eq_1
def J6:=Aa Aef.eq_1
def Ajq:=Aa AdX.eq_1
def Aip:=Aa AbV.eq_1
def Air:=Aa Vk.eq_1
def Rq:=Aa Ab8.eq_1
def LX:=Aa Ack.eq_1
def Aib:=Aa Ac1.eq_1
def L6:=Aa Ab0.eq_1
def LV:=Aa AcJ.eq_1
def AhZ:=Aa Acb.eq_1
def ZK:=Aa U6.eq_1
def Y8:=Aa AcD.eq_1
def Ah2:=Aa VD.eq_1
def X9:=Aa Ac7.eq_1
def Aht:=Aa Aku.eq_1
theorem LU {K:TV→Prop} {e:Env} {H:List Ob}:res Afl e H K=res [.tmp 8,.tmp 9] e H K:=Ad rfl
def Aon:=D7 124 Tryz.func24 Apx Apj rfl
def Yo:Af := .seq (.block 1 (.draw 6 [mv_ 11 3,mv_ 12 0,mv_ 13 4,po_ 14 (.idxA 2 (.t 12) (.t 13)),po_ 15 (.fieldA 0 0 (.t 14)),po_ 16 (.load false 1 (.t 15)),mv_ 17 0,mv_ 18 4,po_ 19 (.idxA 2 (.t 17) (.t 18)),po_ 20 (.fieldA 1 1 (.t 19)),po_ 21 (.load false 1 (.t 20)),⟨some 22,.p (.build [.val (.int .i64 ((0:Nat):Int)),.val (.slice none 0 0)] [1,1] [⟨0,.t 16⟩,⟨1,.t 21⟩]),none⟩,⟨some 23,.s (.bslice 2 1 (.agg [.val (.int .i64 ((0:Nat):Int)),.val (.slice none 0 0)]) [⟨0,.t 22⟩]),none⟩,so_ 24 (.app 2 32 35 (.t 11) (.t 23)),mv_ 3 24] [0,3,4]))
 (.ops [mv_ 9 4,po_ 10 (.bin 3 .add (.t 9) (ci_ 1)),mv_ 4 10] [0,3,4])
def YG:Af := .seq (.seq (.ops [mv_ 5 4,mv_ 6 0,po_ 7 (.lenV (.t 6)),po_ 8 (.bin 3 .lss (.t 5) (.t 7))] [0,3,4,8])
 (.cond (.t 8)
 (.skip)
 (.exit 0)))
 Yo
def ZQ:Af := .block 0 (.own 3 2 (.loop [0,3,4] YG))
def YE:Af := .seq (.ops [mv_ 25 3,mv_ 2 25] [2])
 (.ret)
def X6:Af := .seq (.seq (.ops [po_ 4 (.mov (ci_ 0))] [0,3,4])
 ZQ)
 YE
def Yd:Af := .seq (.ops [po_ 3 (.mov (.c (.slice none 0 0)))] [0,3])
 X6
def Aea:Af := .seq (.ops [po_ 2 (.mov (.c (.slice none 0 0)))] [0])
 Yd
def Aev:List VR:=[.tmp 2]
theorem Ak9:Tryz.f5.body.bind (trC Tryz.prog Tryz.f5.ntmps)=some (er Aea):=by kernel_rfl
theorem Alk:trR Tryz.prog Tryz.f5.results.toList=some Aev:=by kernel_rfl
def AeQ:=Aa Yo.eq_1
def VN:=Aa YG.eq_1
def AfI:=Aa ZQ.eq_1
def AfB:=Aa YE.eq_1
def AfS:=Aa X6.eq_1
def AeH:=Aa Yd.eq_1
def Ajf:=Aa Aea.eq_1
theorem Ai2 {K:TV→Prop} {e:Env} {H:List Ob}:res Aev e H K=res [.tmp 2] e H K:=Ad rfl
def Akl:=D7 26 Tryz.func5 Ak9 Alk rfl
def AcN:Af := .seq (.draw 27 [mv_ 40 8,po_ 41 (.bin 3 .eql (.t 40) (ci_ 0)),mv_ 42 41,⟨some 43,.p (.load true 20 (.t 4)),some ⟨42,true⟩⟩,⟨some 44,.p (.load true 20 (.t 7)),some ⟨42,true⟩⟩,⟨some 45,.p (.gen (.eqA 20 false) [.t 43,.t 44]),some ⟨42,true⟩⟩,po_ 46 (.pick (.t 42) (.t 45) (.c (.bool false))),mv_ 47 46,⟨some 48,.p (.mov (.t 0)),some ⟨47,true⟩⟩,⟨some 49,.p (.mov (.t 3)),some ⟨47,true⟩⟩,⟨some 50,.p (.idxA 2 (.t 48) (.t 49)),some ⟨47,true⟩⟩,⟨some 51,.p (.fieldA 0 0 (.t 50)),some ⟨47,true⟩⟩,⟨some 52,.p (.load false 1 (.t 51)),some ⟨47,true⟩⟩,⟨some 53,.p (.mov (.t 0)),some ⟨47,true⟩⟩,⟨some 54,.p (.mov (.t 6)),some ⟨47,true⟩⟩,⟨some 55,.p (.idxA 2 (.t 53) (.t 54)),some ⟨47,true⟩⟩,⟨some 56,.p (.fieldA 0 0 (.t 55)),some ⟨47,true⟩⟩,⟨some 57,.p (.load false 1 (.t 56)),some ⟨47,true⟩⟩,⟨some 58,.p (.bin 3 .neq (.t 52) (.t 57)),some ⟨47,true⟩⟩,⟨some 59,.p (.mov (.t 58)),some ⟨47,true⟩⟩,⟨some 60,.p (.mov (.t 0)),some ⟨59,false⟩⟩,⟨some 61,.p (.mov (.t 3)),some ⟨59,false⟩⟩,⟨some 62,.p (.idxA 2 (.t 60) (.t 61)),some ⟨59,false⟩⟩,⟨some 63,.p (.fieldA 1 1 (.t 62)),some ⟨59,false⟩⟩,⟨some 64,.p (.load false 1 (.t 63)),some ⟨59,false⟩⟩,⟨some 65,.p (.b2s (.t 64)),some ⟨59,false⟩⟩,⟨some 66,.p (.mov (.t 0)),some ⟨59,false⟩⟩,⟨some 67,.p (.mov (.t 6)),some ⟨59,false⟩⟩,⟨some 68,.p (.idxA 2 (.t 66) (.t 67)),some ⟨59,false⟩⟩,⟨some 69,.p (.fieldA 1 1 (.t 68)),some ⟨59,false⟩⟩,⟨some 70,.p (.load false 1 (.t 69)),some ⟨59,false⟩⟩,⟨some 71,.p (.b2s (.t 70)),some ⟨59,false⟩⟩,⟨some 72,.p (.bin 9 .neq (.t 65) (.t 71)),some ⟨59,false⟩⟩,⟨some 73,.p (.pick (.t 59) (.c (.bool true)) (.t 72)),some ⟨47,true⟩⟩,po_ 74 (.pick (.t 47) (.t 73) (.c (.bool false)))] [0,3,4,5,6,74])
 (.cond (.t 74)
 (.seq (.ops [po_ 2 (.mov (.c (.bool true)))] [2])
  (.ret))
 (.skip))
def AcK:Af := .seq (.block 3 (.seq (.ops [mv_ 33 0,mv_ 34 6,po_ 35 (.idxA 2 (.t 33) (.t 34)),po_ 36 (.load true 2 (.t 35)),so_ 37 (.call 7 [.t 36]),mv_ 32 37,po_ 38 (.ext 0 (.t 32)),po_ 39 (.ext 1 (.t 32)),so_ 7 (.alloc (.arr 20 1 [.val (.int .u8 ((0:Nat):Int)),.val (.int .u8 ((0:Nat):Int)),.val (.int .u8 ((0:Nat):Int)),.val (.int .u8 ((0:Nat):Int)),.val (.int .u8 ((0:Nat):Int)),.val (.int .u8 ((0:Nat):Int)),.val (.int .u8 ((0:Nat):Int)),.val (.int .u8 ((0:Nat):Int)),.val (.int .u8 ((0:Nat):Int)),.val (.int .u8 ((0:Nat):Int)),.val (.int .u8 ((0:Nat):Int)),.val (.int .u8 ((0:Nat):Int)),.val (.int .u8 ((0:Nat):Int)),.val (.int .u8 ((0:Nat):Int)),.val (.int .u8 ((0:Nat):Int)),.val (.int .u8 ((0:Nat):Int)),.val (.int .u8 ((0:Nat):Int)),.val (.int .u8 ((0:Nat):Int)),.val (.int .u8 ((0:Nat):Int)),.val (.int .u8 ((0:Nat):Int))])),⟨none,.s (.store 20 (.t 7) (.t 38)),none⟩,mv_ 8 39] [0,3,4,5,6,7,8])
 AcN))
 (.ops [mv_ 30 6,po_ 31 (.bin 3 .add (.t 30) (ci_ 1)),mv_ 6 31] [0,3,4,5,6])
def Acf:Af := .seq (.seq (.ops [mv_ 23 6,mv_ 24 3,po_ 25 (.bin 3 .lss (.t 23) (.t 24)),mv_ 26 25,⟨some 27,.p (.mov (.t 5)),some ⟨26,true⟩⟩,⟨some 28,.p (.bin 3 .eql (.t 27) (ci_ 0)),some ⟨26,true⟩⟩,po_ 29 (.pick (.t 26) (.t 28) (.c (.bool false)))] [0,3,4,5,6,29])
 (.cond (.t 29)
 (.skip)
 (.exit 2)))
 AcK
def Ab5:Af := .block 2 (.loop [0,3,4,5,6] Acf)
def AcL:Af := .seq (.ops [po_ 6 (.mov (ci_ 0))] [0,3,4,5,6])
 Ab5
def Ac4:Af := .ops [mv_ 13 3,po_ 14 (.bin 3 .add (.t 13) (ci_ 1)),mv_ 3 14] [0,3]
def Adj:Af := .seq (.block 1 (.seq (.ops [mv_ 16 0,mv_ 17 3,po_ 18 (.idxA 2 (.t 16) (.t 17)),po_ 19 (.load true 2 (.t 18)),so_ 20 (.call 7 [.t 19]),mv_ 15 20,po_ 21 (.ext 0 (.t 15)),po_ 22 (.ext 1 (.t 15)),so_ 4 (.alloc (.arr 20 1 [.val (.int .u8 ((0:Nat):Int)),.val (.int .u8 ((0:Nat):Int)),.val (.int .u8 ((0:Nat):Int)),.val (.int .u8 ((0:Nat):Int)),.val (.int .u8 ((0:Nat):Int)),.val (.int .u8 ((0:Nat):Int)),.val (.int .u8 ((0:Nat):Int)),.val (.int .u8 ((0:Nat):Int)),.val (.int .u8 ((0:Nat):Int)),.val (.int .u8 ((0:Nat):Int)),.val (.int .u8 ((0:Nat):Int)),.val (.int .u8 ((0:Nat):Int)),.val (.int .u8 ((0:Nat):Int)),.val (.int .u8 ((0:Nat):Int)),.val (.int .u8 ((0:Nat):Int)),.val (.int .u8 ((0:Nat):Int)),.val (.int .u8 ((0:Nat):Int)),.val (.int .u8 ((0:Nat):Int)),.val (.int .u8 ((0:Nat):Int)),.val (.int .u8 ((0:Nat):Int))])),⟨none,.s (.store 20 (.t 4) (.t 21)),none⟩,mv_ 5 22] [0,3,4,5])
 AcL))
 Ac4
def Acp:Af := .seq (.seq (.ops [mv_ 9 3,mv_ 10 0,po_ 11 (.lenV (.t 10)),po_ 12 (.bin 3 .lss (.t 9) (.t 11))] [0,3,12])
 (.cond (.t 12)
 (.skip)
 (.exit 0)))
 Adj
def Acj:Af := .block 0 (.loop [0,3] Acp)
def Abl:Af := .seq (.ops [po_ 2 (.mov (.c (.bool false)))] [2])
 (.ret)
def AaE:Af := .seq (.seq (.ops [po_ 3 (.mov (ci_ 0))] [0,3])
 Acj)
 Abl
def AiR:Af := .seq (.ops [po_ 2 (.mov (.c (.bool false)))] [0])
 AaE
def AiQ:List VR:=[.tmp 2]
theorem Ant:Tryz.f6.body.bind (trC Tryz.prog Tryz.f6.ntmps)=some (er AiR):=by kernel_rfl
theorem An2:trR Tryz.prog Tryz.f6.results.toList=some AiQ:=by kernel_rfl
def Jq:=Aa AcN.eq_1
def Aiy:=Aa AcK.eq_1
def LZ:=Aa Acf.eq_1
def Zw:=Aa Ab5.eq_1
def Zg:=Aa AcL.eq_1
def RZ:=Aa Ac4.eq_1
def AhN:=Aa Adj.eq_1
def YZ:=Aa Acp.eq_1
def Aio:=Aa Acj.eq_1
def Ag2:=Aa Abl.eq_1
def Agk:=Aa AaE.eq_1
def Alt:=Aa AiR.eq_1
theorem XX {K:TV→Prop} {e:Env} {H:List Ob}:res AiQ e H K=res [.tmp 2] e H K:=Ad rfl
def Amw:=D7 75 Tryz.func6 Ant An2 rfl
def Um:Af := .seq (.block 1 (.seq (.ops [mv_ 28 7,mv_ 29 0,mv_ 30 8,po_ 31 (.idxA 2 (.t 29) (.t 30)),po_ 32 (.fieldA 1 1 (.t 31)),po_ 33 (.load false 1 (.t 32)),po_ 34 (.lenV (.t 33)),po_ 35 (.bin 3 .add (.t 28) (.t 34)),mv_ 7 35] [0,1,5,7,8])
 (.seq (.ops [mv_ 36 7,po_ 37 (.bin 3 .gtr (.t 36) (ci_ 20000))] [0,1,5,7,8,37])
 (.cond (.t 37)
 (.seq (.ops [po_ 6 (.mov (.c (.bool true)))] [6])
  (.ret))
 (.skip)))))
 (.ops [mv_ 26 8,po_ 27 (.bin 3 .add (.t 26) (ci_ 1)),mv_ 8 27] [0,1,5,7,8])
def TU:Af := .seq (.seq (.ops [mv_ 22 8,mv_ 23 0,po_ 24 (.lenV (.t 23)),po_ 25 (.bin 3 .lss (.t 22) (.t 24))] [0,1,5,7,8,25])
 (.cond (.t 25)
 (.skip)
 (.exit 0)))
 Um
def Ub:Af := .block 0 (.loop [0,1,5,7,8] TU)
def UB:Af := .seq (.ops [mv_ 52 9,mv_ 53 1,mv_ 54 9,po_ 55 (.lenV (.t 54)),po_ 56 (.bin 3 .rem (.t 53) (.t 55)),po_ 57 (.idxA 2 (.t 52) (.t 56)),po_ 58 (.load true 2 (.t 57)),so_ 59 (.call 7 [.t 58]),mv_ 51 59,po_ 60 (.ext 0 (.t 51)),po_ 61 (.ext 1 (.t 51)),so_ 12 (.alloc (.arr 20 1 [.val (.int .u8 ((0:Nat):Int)),.val (.int .u8 ((0:Nat):Int)),.val (.int .u8 ((0:Nat):Int)),.val (.int .u8 ((0:Nat):Int)),.val (.int .u8 ((0:Nat):Int)),.val (.int .u8 ((0:Nat):Int)),.val (.int .u8 ((0:Nat):Int)),.val (.int .u8 ((0:Nat):Int)),.val (.int .u8 ((0:Nat):Int)),.val (.int .u8 ((0:Nat):Int)),.val (.int .u8 ((0:Nat):Int)),.val (.int .u8 ((0:Nat):Int)),.val (.int .u8 ((0:Nat):Int)),.val (.int .u8 ((0:Nat):Int)),.val (.int .u8 ((0:Nat):Int)),.val (.int .u8 ((0:Nat):Int)),.val (.int .u8 ((0:Nat):Int)),.val (.int .u8 ((0:Nat):Int)),.val (.int .u8 ((0:Nat):Int)),.val (.int .u8 ((0:Nat):Int))])),⟨none,.s (.store 20 (.t 12) (.t 60)),none⟩,mv_ 13 61] [0,9,11,12])
 (.ops [po_ 62 (.load true 20 (.t 12)),⟨none,.s (.store 20 (.t 11) (.t 62)),none⟩] [0,9,11])
def TW:Af := .cond (.t 50)
 UB
 (.skip)
def Ug:Af := .seq (.ops [po_ 70 (.load true 20 (.t 11)),mv_ 71 9,so_ 72 (.call 9 [.t 70,.t 71]),mv_ 69 72,po_ 73 (.ext 0 (.t 69)),po_ 74 (.ext 1 (.t 69)),mv_ 16 73,mv_ 17 74] [14,15,16,17])
 (.seq (.ops [mv_ 75 14,mv_ 76 16,so_ 77 (.call 10 [.t 75,.t 76]),mv_ 18 77] [15,17,18])
 (.seq (.ops [mv_ 78 18,mv_ 79 78,⟨some 80,.p (.mov (.t 15)),some ⟨79,true⟩⟩,⟨some 81,.s (.call 11 [.t 80]),some ⟨79,true⟩⟩,⟨some 82,.p (.mov (.t 17)),some ⟨79,true⟩⟩,⟨some 83,.p (.bin 3 .eql (.t 81) (.t 82)),some ⟨79,true⟩⟩,po_ 84 (.pick (.t 79) (.t 83) (.c (.bool false))),mv_ 6 84] [6])
 (.ret)))
def MR:Af := .seq (.ops [po_ 64 (.load true 20 (.t 11)),mv_ 65 0,so_ 66 (.call 8 [.t 64,.t 65]),mv_ 63 66,po_ 67 (.ext 0 (.t 63)),po_ 68 (.ext 1 (.t 63)),mv_ 14 67,mv_ 15 68] [9,11,14,15])
 Ug
def Ua:Af := .seq (.seq (.ops [mv_ 44 9,po_ 45 (.lenV (.t 44)),po_ 46 (.bin 3 .gtr (.t 45) (ci_ 0)),mv_ 47 46,⟨some 48,.p (.mov (.t 1)),some ⟨47,true⟩⟩,⟨some 49,.p (.bin 3 .geq (.t 48) (ci_ 0)),some ⟨47,true⟩⟩,po_ 50 (.pick (.t 47) (.t 49) (.c (.bool false)))] [0,1,9,11,50])
 TW)
 MR
def Ue:Af := .seq (.ops [po_ 43 (.load true 20 (.t 5)),so_ 11 (.alloc (.arr 20 1 [.val (.int .u8 ((0:Nat):Int)),.val (.int .u8 ((0:Nat):Int)),.val (.int .u8 ((0:Nat):Int)),.val (.int .u8 ((0:Nat):Int)),.val (.int .u8 ((0:Nat):Int)),.val (.int .u8 ((0:Nat):Int)),.val (.int .u8 ((0:Nat):Int)),.val (.int .u8 ((0:Nat):Int)),.val (.int .u8 ((0:Nat):Int)),.val (.int .u8 ((0:Nat):Int)),.val (.int .u8 ((0:Nat):Int)),.val (.int .u8 ((0:Nat):Int)),.val (.int .u8 ((0:Nat):Int)),.val (.int .u8 ((0:Nat):Int)),.val (.int .u8 ((0:Nat):Int)),.val (.int .u8 ((0:Nat):Int)),.val (.int .u8 ((0:Nat):Int)),.val (.int .u8 ((0:Nat):Int)),.val (.int .u8 ((0:Nat):Int)),.val (.int .u8 ((0:Nat):Int))])),⟨none,.s (.store 20 (.t 11) (.t 43)),none⟩] [0,1,9,11])
 Ua
def Tq:Af := .seq (.seq (.ops [mv_ 42 10] [0,1,5,9,42])
 (.cond (.t 42)
 (.seq (.ops [po_ 6 (.mov (.c (.bool true)))] [6])
  (.ret))
 (.skip)))
 Ue
def SG:Af := .seq (.ops [mv_ 40 9,so_ 41 (.call 6 [.t 40]),mv_ 10 41] [0,1,5,9,10])
 Tq
def SN:Af := .seq (.ops [mv_ 38 0,so_ 39 (.call 5 [.t 38]),mv_ 9 39] [0,1,5,9])
 SG
def TD:Af := .seq (.seq (.ops [po_ 8 (.mov (ci_ 0))] [0,1,5,7,8])
 Ub)
 SN
def TA:Af := .seq (.ops [po_ 7 (.mov (ci_ 0))] [0,1,5,7])
 TD
def SI:Af := .seq (.seq (.ops [mv_ 19 0,po_ 20 (.lenV (.t 19)),po_ 21 (.bin 3 .gtr (.t 20) (ci_ 60))] [0,1,5,21])
 (.cond (.t 21)
 (.seq (.ops [po_ 6 (.mov (.c (.bool true)))] [6])
  (.ret))
 (.skip)))
 TA
def Yr:Af := .seq (.ops [so_ 5 (.box (.t 2)),po_ 6 (.mov (.c (.bool false)))] [0,1,5])
 SI
def RG:List VR:=[.tmp 6]
theorem Ah7:Tryz.f3.body.bind (trC Tryz.prog Tryz.f3.ntmps)=some (er Yr):=by kernel_rfl
theorem Aig:trR Tryz.prog Tryz.f3.results.toList=some RG:=by kernel_rfl
def QN:=Aa Um.eq_1
def Ku:=Aa TU.eq_1
def AbM:=Aa Ub.eq_1
def Abs:=Aa UB.eq_1
def Kr:=Aa TW.eq_1
def Kt:=Aa Ug.eq_1
def AbG:=Aa MR.eq_1
def AbR:=Aa Ua.eq_1
def AbE:=Aa Ue.eq_1
def Qe:=Aa Tq.eq_1
def Aai:=Aa SG.eq_1
def Aan:=Aa SN.eq_1
def Aam:=Aa TD.eq_1
def Aaf:=Aa TA.eq_1
def Qg:=Aa SI.eq_1
def Vs:=Aa Yr.eq_1
theorem D8 {K:TV→Prop} {e:Env} {H:List Ob}:res RG e H K=res [.tmp 6] e H K:=Ad rfl
def Ag3:=D7 85 Tryz.func3 Ah7 Aig rfl
end
section
open Go.RowKit Kit
variable [AL]
def Btf (wi mi:Nat) (es:List (List UInt8×TV)) (out:List EnJ) (H:List Ob):Prop:=H[mi]?=some (.mpo (.arr 20) es) ∧
 ∃ ri v cp,H[wi]?=some (.obj 0 (.agg [.mp mi 0,.os 24 ri v [] 0 out.length cp]))∧H[ri]?=some (.obj v (.arr out.length 24 (out.map enJ)))
def WSt (wi mi:Nat) (es:List (List UInt8×TV)) (out:List EnJ) (H:List Ob):Prop:=H[mi]?=some (.mpo (.arr 20) es) ∧
 ((out=[]∧H[wi]?=some (.obj 0 (.agg [.mp mi 0,.val (.slice none 0 0)]))) ∨
 ∃ ri v cp,H[wi]?=some (.obj 0 (.agg [.mp mi 0,.os 24 ri v [] 0 out.length cp]))∧H[ri]?=some (.obj v (.arr out.length 24 (out.map enJ))))
theorem Aq7 {α:Type} {z a:α}:(List.replicate 1 z).set 0 a=[a]:=by simp [List.replicate]
def BqD (wi mi:Nat) (es:List (List UInt8×TV)) (res:Except Nat (List EnJ)) (x:TV) (H':List Ob):Prop:=match res with
 | .error c=>(c=50→∃ k j,j.length=20∧x=ide (.op k 0 [])∧H'[k]?=some (.obj 0 (.agg [X0 j,i64 ((50:Nat):Int)])))∧(c≠50→x=eno (c:Int))
 | .ok o=>x = .val .nilIface∧Btf wi mi es o H'
theorem Bqf {look:List UInt8→Option (List En)} (hlk:BeZ look) {wi mi:Nat} {es:List (List UInt8×TV)} (hm:AmA es look):∀ (f:Nat) (i dir:List UInt8) (out:List EnJ) (H:List Ob),102≤dir.length+f→dir.length≤101→i.length=20→Af6 out→WSt wi mi es out H →
  Au Tryz.prog 22 [.op wi 0 [],X0 i,ts dir] H (fun x H'=>H.length≤H'.length∧BqD wi mi es (LD look f i dir out) x H'):=by
 intro f
 induction f with
 | zero=>intro i dir out H h1 h2; omega
 | succ f ih =>
 intro i dir out H h1 h2 hi hout hW
 refine AdL (by simp) ?_
 obtain ⟨hmi,hw⟩:=hW
 have hml:mi<H.length:=(List.getElem?_eq_some_iff.1 hmi).1
 have hlook:=hm i
 have hI:(i.map by8).length=20:=by rw [List.length_map]; exact hi
 have hA:∀ T:List Ob,(H++T)[mi]?=some (.mpo (.arr 20) es):=fun T=>by rw [List.getElem?_append_left hml]; exact hmi
 have hwx:∃ y,H[wi]?=some (.obj 0 (.agg [.mp mi 0,y])):=by
  rcases hw with ⟨_,h⟩ | ⟨_,_,_,h,_⟩<;>exact ⟨_,h⟩
 obtain ⟨y,hwy⟩:=hwx
 have hwl:wi<H.length:=(List.getElem?_eq_some_iff.1 hwy).1
 have hB:∀ T:List Ob,(H++T)[wi]?=some (.obj 0 (.agg [.mp mi 0,y])):=fun T=>by rw [List.getElem?_append_left hwl]; exact hwy
 have hC:(H++[Ob.obj 0 (X0 i)])[H.length]?=some (.obj 0 (X0 i)):=by simp
 simp -dsimp (disch:=first | assumption | omega | (simp only [Ac];try omega)) only [↓Ag,Ae,Ai,Ah,eq_self,Nat.reduceEqDiff,↓reduceIte,Nat.reduceAdd,reduceCtorEq,↓Acd,↓Xz,hA,hB,hC]
 rw [hlook]
 cases hl:look i with
 | none =>
  have hres:LD look (f+1) i dir out = .error 50:=by rw [LD,hl]
  rw [hres]
  simp -dsimp (disch:=first | assumption | omega | (simp only [Ac];try omega)) only [↓Ag,Ae,Ai,Ah,eq_self,Nat.reduceEqDiff,↓reduceIte,reduceCtorEq,↓Eh,↓ET,hC,Option.map_none,Option.isSome_none,↓Ci]
  exact ⟨by omega,fun _=>⟨H.length+1,i,hi,rfl,by simp⟩,fun h=>absurd rfl h⟩
 | some t =>
 obtain ⟨htl,hten⟩:=hlk i t hl
 have hwF:LD look (f+1) i dir out=if t=[]∧dir≠[] then .error 21 else AhG (LD look f) dir t out:=by rw [LD,hl]
 by_cases hbad:t=[]∧dir≠[]
 ·obtain ⟨ht0,hd0⟩:=hbad
  rw [hwF,if_pos ⟨ht0,hd0⟩]
  subst ht0
  simp -dsimp (disch:=first | assumption | omega | (simp only [Ac];try omega)) only [↓Ag,Ae,Ai,Ah,eq_self,Nat.reduceEqDiff,↓reduceIte,reduceCtorEq,↓Eh,↓ET,↓Jr,Option.isSome_some,↓Ci,hd0]
  exact ⟨by omega,fun h=>absurd h (by omega),fun _=>rfl⟩
 rw [hwF,if_neg hbad]
 have hloop:∀ (H1:List Ob) (ri v cp:Nat),H.length≤H1.length→H1[mi]?=some (.mpo (.arr 20) es)→H1[wi]?=some (.obj 0 (.agg [.mp mi 0,.os 24 ri v [] 0 out.length cp]))→H1[ri]?=some (.obj v (.arr out.length 24 (out.map enJ))) →
   vwp Tryz.prog (Af.loop [0,2,38,39,40] JZ) (Blk 1 (Thn Tryz.prog JW (Acy J4 fun x H'=>H.length≤H'.length∧BqD wi mi es (AhG (LD look f) dir t out) x H')))
    [(0,TV.op wi 0 []),(2,ts dir),(38,TV.sl 22 (t.map enT)),(39,i64 (t.length:Int)),(40,i64 ((0:Nat):Int))] H1:=by
  intro H1 ri0 v0 cp0 q1 q2 q3 q4
  refine Cj (fun q e H2=>∃ (k:Nat) (o:List EnJ) (ri v cp:Nat),q=t.length - k∧k≤t.length∧Af6 o∧AhG (LD look f) dir t out=AhG (LD look f) dir (t.drop k) o∧H1.length≤H2.length ∧
   H2[mi]?=some (.mpo (.arr 20) es)∧H2[wi]?=some (.obj 0 (.agg [.mp mi 0,.os 24 ri v [] 0 o.length cp]))∧H2[ri]?=some (.obj v (.arr o.length 24 (o.map enJ))) ∧
   e=[(0,TV.op wi 0 []),(2,ts dir),(38,TV.sl 22 (t.map enT)),(39,i64 (t.length:Int)),(40,i64 (k:Int))]) t.length ?_ ?_
  ·exact ⟨0,out,ri0,v0,cp0,rfl,Nat.zero_le _,hout,rfl,Nat.le_refl _,q2,q3,q4,rfl⟩
  clear q2 q3 q4
  rintro q e H2 ⟨k,o,ri,v,cp,rfl,hk,ho,hent,hHl,g1,g2,g3,rfl⟩
  have l1:mi<H2.length:=(List.getElem?_eq_some_iff.1 g1).1
  have l2:wi<H2.length:=(List.getElem?_eq_some_iff.1 g2).1
  have l3:ri<H2.length:=(List.getElem?_eq_some_iff.1 g3).1
  have A1:∀ T:List Ob,(H2++T)[mi]?=some (.mpo (.arr 20) es):=fun T=>by rw [List.getElem?_append_left l1]; exact g1
  have A2:∀ T:List Ob,(H2++T)[wi]?=some (.obj 0 (.agg [.mp mi 0,.os 24 ri v [] 0 o.length cp])):=fun T=>by rw [List.getElem?_append_left l2]; exact g2
  have A3:∀ T:List Ob,(H2++T)[ri]?=some (.obj v (.arr o.length 24 (o.map enJ))):=fun T=>by rw [List.getElem?_append_left l3]; exact g3
  by_cases hkt:k<t.length
  ·have hg:t[k]?=some t[k]:=List.getElem?_eq_getElem hkt
   have hen:=hten _ (List.mem_of_getElem? hg)
   have hdk:=List.drop_eq_getElem_cons hkt
   generalize t[k]=en at *
   have hn50:=(Aar hen.2.1).2.1
   have hI2:(en.id.map by8).length=20:=by rw [List.length_map]; exact hen.2.2
   rw [hdk,AhG] at hent
   have hnl:(dir++en.name).length=dir.length+en.name.length:=List.length_append
   have gE:(H2++[Ob.obj 0 (enT en)])[H2.length]?=some (.obj 0 (enT en)):=by simp
   have hcat1:=fun t=>Arv (t:=t) (l:=dir) (m:=en.name) (by omega)
   have hEp:enT en = .agg [i64 en.mode,ts en.name,X0 en.id]:=rfl
   by_cases hp:(dir++en.name).length > 100
   ·rw [if_pos hp] at hent
    rw [hent]
    simp -dsimp (disch:=first | assumption | omega | (simp only [Ac];try omega)) only [↓Ag,Ae,Ai,Ah,eq_self,Nat.reduceEqDiff,↓reduceIte,Nat.reduceAdd,reduceCtorEq,↓Dc,↓Df,↓Ey,↓Fb,↓EP,hg,gE,hcat1,Dj,↓Ci]
    exact ⟨by omega,fun h=>absurd h (by omega),fun _=>rfl⟩
   rw [if_neg hp] at hent
   have hcat2:=fun t=>Arv (t:=t) (l:=dir++en.name) (m:=[47]) (by simp; omega)
   by_cases hm:en.mode=16384
   ·rw [if_pos hm] at hent
    have hih:=ih en.id (dir++en.name++[47]) o (H2++[Ob.obj 0 (enT en)]) (by simp; omega) (by simp; omega) hen.2.2 ho ⟨A1 _,.inr ⟨ri,v,cp,A2 _,A3 _⟩⟩
    simp -dsimp (disch:=first | assumption | omega | (simp only [Ac];try omega)) only [↓Ag,Ae,Ai,Ah,eq_self,Nat.reduceEqDiff,↓reduceIte,Nat.reduceAdd,reduceCtorEq,↓Dc,↓Df,↓Ey,↓Fb,↓EP,hg,gE,hcat1,hcat2,Dj,hm,↓JB,↓Yj]
    refine Js (hih.mono fun x H' hx => ?_)
    obtain ⟨hx1,hx2⟩:=hx
    have hlen:H2.length+1≤H'.length:=by simpa using hx1
    cases hres:LD look f en.id (dir++en.name++[47]) o with
    | error c =>
     rw [hres] at hx2 hent
     have he2:AhG (LD look f) dir t out = .error c:=hent
     rw [he2]
     by_cases hc:c=50
     ·obtain ⟨k',j',hj',rfl,hk'⟩:=hx2.1 hc
      simp -dsimp (disch:=first | assumption | omega | (simp only [Ac];try omega)) only [↓Ag,Ae,Ai,Ah,eq_self,Nat.reduceEqDiff,↓reduceIte,reduceCtorEq,↓Ci]
      exact ⟨by omega,fun _=>⟨k',j',hj',rfl,hk'⟩,fun h=>absurd hc h⟩
     ·have hx3:=hx2.2 hc
      subst hx3
      simp -dsimp (disch:=first | assumption | omega | (simp only [Ac];try omega)) only [↓Ag,Ae,Ai,Ah,eq_self,Nat.reduceEqDiff,↓reduceIte,reduceCtorEq,↓Ci]
      exact ⟨by omega,fun h=>absurd h hc,fun _=>rfl⟩
    | ok o' =>
     rw [hres] at hx2 hent
     obtain ⟨rfl,w1,w2⟩:=hx2
     have hent':AhG (LD look f) dir t out=AhG (LD look f) dir (t.drop (k+1)) o':=hent
     have ho':=Adn hlk ho hres
     obtain ⟨ri',v',cp',w3,w4⟩:=w2
     simp -dsimp (disch:=first | assumption | omega | (simp only [Ac];try omega)) only [↓Ag,Ae,Ai,Ah,eq_self,Nat.reduceEqDiff,↓reduceIte,reduceCtorEq]
     exact Aq (t.length - (k+1)) (by omega) (by omega) ⟨k+1,o',ri',v',cp',rfl,by omega,ho',hent',by omega,w1,w3,w4,rfl⟩
   rw [if_neg hm] at hent
   by_cases ho2:o.length≥2000
   ·rw [if_pos ho2] at hent
    rw [hent]
    simp -dsimp (disch:=first | assumption | omega | (simp only [Ac];try omega)) only [↓Ag,Ae,Ai,Ah,eq_self,Nat.reduceEqDiff,↓reduceIte,Nat.reduceAdd,reduceCtorEq,↓Dc,↓Df,↓Ey,↓Fb,↓EP,hg,gE,A2,hcat1,Dj,↓JB,↓N8,ho2,↓Ci]
    exact ⟨by omega,fun h=>absurd h (by omega),fun _=>rfl⟩
   rw [if_neg ho2] at hent
   have n1:ri≠wi:=fun e=>by rw [e,g2] at g3; cases g3
   have n2:wi≠mi:=fun e=>by rw [e,g1] at g2; cases g2
   have n3:ri≠mi:=fun e=>by rw [e,g1] at g3; cases g3
   have A5:∀ X,(H2.set ri X)[wi]?=some (.obj 0 (.agg [.mp mi 0,.os 24 ri v [] 0 o.length cp])):=fun X=>by rw [List.getElem?_set_ne n1]; exact g2
   have htk:(o.map enJ).take o.length=o.map enJ:=List.take_of_length_le (by simp)
   simp -dsimp (disch:=first | assumption | omega | (simp only [Ac];try omega)) only [↓Ag,Ae,Ai,Ah,eq_self,Nat.reduceEqDiff,↓reduceIte,Nat.reduceAdd,reduceCtorEq,Nat.reduceLeDiff,↓Dc,↓Df,↓Ey,↓Fb,↓EP,hg,gE,A2,A3,hcat1,Dj,↓JB,↓N8,ho2,↓Zd,Aq7,htk,A5]
   have hsn:o.map enJ++[enJ ⟨dir++en.name,en.mode,en.id,0,0⟩]=(o++[(⟨dir++en.name,en.mode,en.id,0,0⟩:EnJ)]).map enJ:=by simp
   refine Aq (t.length - (k+1)) (by omega) (by simp; omega) ⟨k+1,o++[⟨dir++en.name,en.mode,en.id,0,0⟩],ri,v+1,o.length+1,rfl,by omega,⟨by simp; omega,fun x hx => ?_⟩,hent,by simp; omega,?_,?_,?_,rfl⟩
   ·rcases List.mem_append.1 hx with hx | hx
    ·exact ho.2 x hx
    ·rw [List.mem_singleton.1 hx]; exact hen.2.2
   ·rw [List.append_assoc,List.getElem?_append_left (by simpa using l1),List.getElem?_set_ne n2,List.getElem?_set_ne n3]; exact g1
   ·rw [List.append_assoc,List.getElem?_append_left (by simpa using l2),List.getElem?_set_self (by simpa using l2),List.length_append]; rfl
   ·rw [List.append_assoc,List.getElem?_append_left (by simpa using l3),List.getElem?_set_ne (Ne.symm n1),List.getElem?_set_self l3,←hsn,List.length_append]; rfl
  ·have hk2:k=t.length:=by omega
   have hent2:AhG (LD look f) dir t out = .ok o:=by rw [hent,List.drop_of_length_le (by omega)]; rfl
   rw [hent2]
   simp -dsimp (disch:=first | assumption | omega | (simp only [Ac];try omega)) only [↓Ag,Ae,Ai,Ah,eq_self,Nat.reduceEqDiff,↓reduceIte,reduceCtorEq,↓Dc,↓Df,↓XN,↓Ci]
   exact ⟨by omega,rfl,g1,ri,v,cp,g2,g3⟩
 have hq:vwp Tryz.prog JX (Acy J4 fun x H'=>H.length≤H'.length∧BqD wi mi es (AhG (LD look f) dir t out) x H') [(0,TV.op wi 0 []),(2,ts dir),(7,TV.sl 22 (t.map enT))] (H++[Ob.obj 0 (X0 i)]):=by
  rcases hw with ⟨ho,h⟩ | ⟨ri,v,cp,h,hr⟩
  ·rw [hwy] at h
   have hy:y = .val (.slice none 0 0):=by simpa using h
   subst hy ho
   have hne:mi≠wi:=fun e=>by rw [e,hwy] at hmi; cases hmi
   have:=hloop (H.set wi (.obj 0 (.agg [.mp mi 0,.os 24 (H.length+1) 0 [] 0 0 0]))++[.obj 0 (X0 i)]++[.obj 0 (.arr 0 24 [])]) (H.length+1) 0 0 (by simp)
    (by rw [List.append_assoc,List.getElem?_append_left (by simpa using hml),List.getElem?_set_ne (Ne.symm hne)]; exact hmi)
    (by rw [List.append_assoc,List.getElem?_append_left (by simpa using hwl),List.getElem?_set_self hwl]; rfl)
    (by rw [List.getElem?_append_right (by simp)]; simp)
   simp -dsimp (disch:=first | assumption | omega | (simp only [Ac];try omega)) only [↓Ag,Ae,Ai,Ah,eq_self,Nat.reduceEqDiff,↓reduceIte,Nat.reduceAdd,reduceCtorEq,↓Nu,↓Nw,hB]
   exact this
  ·rw [hwy] at h
   have hy:y = .os 24 ri v [] 0 out.length cp:=by simpa using h
   subst hy
   have hrl:ri<H.length:=(List.getElem?_eq_some_iff.1 hr).1
   have:=hloop (H++[Ob.obj 0 (X0 i)]) ri v cp (by simp) (hA _) (hB _) (by rw [List.getElem?_append_left hrl]; exact hr)
   simp -dsimp (disch:=first | assumption | omega | (simp only [Ac];try omega)) only [↓Ag,Ae,Ai,Ah,eq_self,Nat.reduceEqDiff,↓reduceIte,Nat.reduceAdd,reduceCtorEq,↓Nu,↓Nw,hB]
   exact this
 by_cases ht0:t=[]
 ·have hd0:dir=[]:=Classical.byContradiction fun h=>hbad ⟨ht0,h⟩
  subst ht0 hd0
  simp -dsimp (disch:=first | assumption | omega | (simp only [Ac];try omega)) only [↓Ag,Ae,Ai,Ah,eq_self,Nat.reduceEqDiff,↓reduceIte,reduceCtorEq,↓Eh,↓ET,↓Jr,Option.isSome_some]
  exact hq
 ·have htl0:t.length≠0:=fun h=>ht0 (List.length_eq_zero_iff.1 h)
  simp -dsimp (disch:=first | assumption | omega | (simp only [Ac];try omega)) only [↓Ag,Ae,Ai,Ah,eq_self,Nat.reduceEqDiff,↓reduceIte,reduceCtorEq,↓Eh,↓ET,↓Jr,Option.isSome_some,htl0]
  exact hq
end
end Go.Proofs.YtnkpoloeifhflaaGreatDoor
namespace Go.Proofs.YtnkpoloeifhflaaGreatDoor.Kit
def tb:Nat→Nat
 | 0=>65520
 | i+1=>tb i+(65520+255*(i+1))
end Go.Proofs.YtnkpoloeifhflaaGreatDoor.Kit
namespace Go.Proofs.YtnkpoloeifhflaaGreatDoor.Kit
open Go.RowKit
theorem VE {a b:Int} (h:a=b):Ending.returned (.int .u32 a) = .returned (.int .u32 b):=by rw [h]
end Go.Proofs.YtnkpoloeifhflaaGreatDoor.Kit
namespace Go.Proofs.YtnkpoloeifhflaaGreatDoor.Kit
open Go.RowKit
theorem Aif (x:Nat) (k:Nat) (hx:x<4294967296) (hk:k<32):bits .or .u32 ((x:Int)*(2 ^ k:Nat) % 4294967296) ((x:Int) / (2 ^ (32 - k):Nat))=((rot x k:Nat):Int):=by
 rw [show (x:Int)*(2 ^ k:Nat) % 4294967296=((x*2 ^ k % 4294967296:Nat):Int) from by rw [Int.natCast_emod,Int.natCast_mul]; rfl,show (x:Int) / (2 ^ (32 - k):Nat)=((x / 2 ^ (32 - k):Nat):Int) from by rw [Int.natCast_ediv],u32_or_nat _ _ (Nat.mod_lt _ (by omega)) (Nat.lt_of_le_of_lt (Nat.div_le_self _ _) hx)]
 rfl
set_option maxRecDepth 100000 in
set_option maxHeartbeats 400000 in
theorem Agx (x:Nat) (k:Int) (w:World) (hx:x<4294967296) (hk:k=1∨k=5∨k=30) :
  Calls Tryz.prog 111 #[.int .u32 x,.int .i64 k] w fun e w'=>e = .returned (.int .u32 (rot x k.toNat))∧w=w':=by
 rcases hk with rfl | rfl | rfl
 ·have hm:bits .and .u64 1 31=1:=by decide
  go_enter Tryz.func111,Tryz.ntmps111
  go_wp2
  go_ret
  exact ⟨VE (Aif x 1 hx (by omega)),rfl⟩
 ·have hm:bits .and .u64 5 31=5:=by decide
  go_enter Tryz.func111,Tryz.ntmps111
  go_wp2
  go_ret
  exact ⟨VE (Aif x 5 hx (by omega)),rfl⟩
 ·have hm:bits .and .u64 30 31=30:=by decide
  go_enter Tryz.func111,Tryz.ntmps111
  go_wp2
  go_ret
  exact ⟨VE (Aif x 30 hx (by omega)),rfl⟩
set_option maxRecDepth 100000 in
set_option maxHeartbeats 400000 in
theorem turn (x:Nat) (k:Int) (w:World) (hx:x<4294967296) (hk:k=1∨k=5∨k=30) :
  Calls Tryz.prog 63 #[.int .u32 x,.int .i64 k] w fun e w'=>e = .returned (.int .u32 (rot x k.toNat))∧∃ n,w'=w.drewN n:=by
 rcases hk with rfl | rfl | rfl
 ·go_enter Tryz.func63,Tryz.ntmps63
  go_wp2
  go_quiet (fail)
  go_wp2
  go_ret
  exact ⟨VE (Aif x 1 hx (by omega)),_,rfl⟩
 ·go_enter Tryz.func63,Tryz.ntmps63
  go_wp2
  go_quiet (fail)
  go_wp2
  go_ret
  exact ⟨VE (Aif x 5 hx (by omega)),_,rfl⟩
 ·go_enter Tryz.func63,Tryz.ntmps63
  go_wp2
  go_quiet (fail)
  go_wp2
  go_ret
  exact ⟨VE (Aif x 30 hx (by omega)),_,rfl⟩
theorem Ark (a b c d:Nat) (ha:a<4294967296) (hb:b<4294967296) (hc:c<4294967296) (hd:d<4294967296) :
  bits .xor .u32 (bits .xor .u32 (bits .xor .u32 a b) c) d=(((((a ^^^ b) ^^^ c) ^^^ d:Nat)):Int):=by
 rw [u32_xor_nat _ _ ha hb,u32_xor_nat _ _ (C9 ha hb) hc,u32_xor_nat _ _ (C9 (C9 ha hb) hc) hd]
theorem A3i (b c d:Nat) (hb:b<4294967296) (hc:c<4294967296) (hd:d<4294967296) :
  bits .or .u32 (bits .and .u32 b c) (bits .and .u32 (bits .xor .u32 IntKind.u32.max b) d)=((sf1 b c d:Nat):Int):=by
 rw [show IntKind.u32.max=((4294967295:Nat):Int) from rfl,u32_and_nat _ _ hb hc,u32_xor_nat _ _ (by omega) hb,u32_and_nat _ _ (C9 (by omega) hb) hd,u32_or_nat _ _ (Ii hb) (Ii (C9 (by omega) hb))]; rfl
theorem Anp (b c d:Nat) (hb:b<4294967296) (hc:c<4294967296) (hd:d<4294967296):bits .xor .u32 (bits .xor .u32 b c) d=((sf2 b c d:Nat):Int):=by
 rw [u32_xor_nat _ _ hb hc,u32_xor_nat _ _ (C9 hb hc) hd]; rfl
theorem A3C (b c d:Nat) (hb:b<4294967296) (hc:c<4294967296) (hd:d<4294967296) :
  bits .or .u32 (bits .or .u32 (bits .and .u32 b c) (bits .and .u32 b d)) (bits .and .u32 c d)=((sf3 b c d:Nat):Int):=by
 rw [u32_and_nat _ _ hb hc,u32_and_nat _ _ hb hd,u32_and_nat _ _ hc hd,u32_or_nat _ _ (Ii hb) (Ii hb),u32_or_nat _ _ (Ac8 (Ii hb) (Ii hb)) (Ii hc)]; rfl
set_option maxRecDepth 100000 in
set_option maxHeartbeats 400000 in
theorem Bs1 (b c d:Nat) (w:World) (hb:b<4294967296) (hc:c<4294967296) (hd:d<4294967296) :
  Calls Tryz.prog 141 #[.int .u32 b,.int .u32 c,.int .u32 d] w fun e w'=>e = .returned (.int .u32 (sf1 b c d))∧w=w':=by
 go_enter Tryz.func141,Tryz.ntmps141
 go_wp2
 go_ret
 exact ⟨VE (A3i b c d hb hc hd),rfl⟩
set_option maxRecDepth 100000 in
set_option maxHeartbeats 400000 in
theorem BsY (b c d:Nat) (w:World) (hb:b<4294967296) (hc:c<4294967296) (hd:d<4294967296) :
  Calls Tryz.prog 142 #[.int .u32 b,.int .u32 c,.int .u32 d] w fun e w'=>e = .returned (.int .u32 (sf2 b c d))∧w=w':=by
 go_enter Tryz.func142,Tryz.ntmps142
 go_wp2
 go_ret
 exact ⟨VE (Anp b c d hb hc hd),rfl⟩
set_option maxRecDepth 100000 in
set_option maxHeartbeats 400000 in
theorem Bto (b c d:Nat) (w:World) (hb:b<4294967296) (hc:c<4294967296) (hd:d<4294967296) :
  Calls Tryz.prog 143 #[.int .u32 b,.int .u32 c,.int .u32 d] w fun e w'=>e = .returned (.int .u32 (sf3 b c d))∧w=w':=by
 go_enter Tryz.func143,Tryz.ntmps143
 go_wp2
 go_ret
 exact ⟨VE (A3C b c d hb hc hd),rfl⟩
set_option maxRecDepth 100000 in
set_option maxHeartbeats 400000 in
theorem Bte (b c d:Nat) (w:World) (hb:b<4294967296) (hc:c<4294967296) (hd:d<4294967296) :
  Calls Tryz.prog 144 #[.int .u32 b,.int .u32 c,.int .u32 d] w fun e w'=>e = .returned (.int .u32 (sf2 b c d))∧w=w':=by
 go_enter Tryz.func144,Tryz.ntmps144
 go_wp2
 go_ret
 exact ⟨VE (Anp b c d hb hc hd),rfl⟩
theorem Aqz (x0 x1 x2 x3:UInt8):bits .or .u32 (bits .or .u32 (bits .or .u32 ((x0.toNat:Int)*16777216) ((x1.toNat:Int)*65536)) ((x2.toNat:Int)*256)) (x3.toNat:Int) =
  ((x0.toNat*16777216+x1.toNat*65536+x2.toNat*256+x3.toNat:Nat):Int):=by
 have:=UInt8.toNat_lt x0; have:=UInt8.toNat_lt x1; have:=UInt8.toNat_lt x2; have:=UInt8.toNat_lt x3
 rw [show (x0.toNat:Int)*16777216=((x0.toNat*16777216:Nat):Int) from by omega,show (x1.toNat:Int)*65536=((x1.toNat*65536:Nat):Int) from by omega,show (x2.toNat:Int)*256=((x2.toNat*256:Nat):Int) from by omega,u32_or_nat _ _ (by omega) (by omega),nat_join 24 (x0.toNat*16777216) (x1.toNat*65536) (by omega) (by omega),u32_or_nat _ _ (by omega) (by omega),nat_join 16 (x0.toNat*16777216+x1.toNat*65536) (x2.toNat*256) (by omega) (by omega),u32_or_nat _ _ (by omega) (by omega),nat_join 8 (x0.toNat*16777216+x1.toNat*65536+x2.toNat*256) x3.toNat (by omega) (by omega)]
set_option maxRecDepth 100000 in
set_option maxHeartbeats 400000 in
theorem Bj7 (a:Option Addr) (cap i:Nat) (p:List UInt8) (w:World) (hb:Bs w a p) (hi:i+4≤p.length) (hp:p.length≤9223372036854775807) :
  Calls Tryz.prog 62 #[.slice a p.length cap,.int .i64 i] w fun e w'=>e = .returned (.int .u32 (Bfi p i))∧∃ n,w'=w.drewN n:=by
 obtain ⟨b,off,x0,rfl,hc0,hx0,HX0⟩:=hb.at (j:=i) (by omega)
 obtain ⟨x1,hc1,hx1,HX1⟩:=hb.at' (j:=i+1) (by omega)
 obtain ⟨x2,hc2,hx2,HX2⟩:=hb.at' (j:=i+2) (by omega)
 obtain ⟨x3,hc3,hx3,HX3⟩:=hb.at' (j:=i+3) (by omega)
 go_enter Tryz.func62,Tryz.ntmps62
 go_wp2
 go_quiet (fail)
 go_wp2
 go_ret
 refine ⟨VE ?_,_,rfl⟩
 rw [Aqz]; unfold Bfi; rw [←HX0.out,←HX1.out,←HX2.out,←HX3.out]
theorem Bha (a:Option Addr) (cap:Nat) (i:Int) (p:List UInt8) (w:World) (hb:Bs w a p) (hp:p.length=64) (hi:0≤i∧i+4≤64) :
  Calls Tryz.prog 62 #[.slice a 64 cap,.int .i64 i] w fun e w'=>e = .returned (.int .u32 (Bfi p i.toNat))∧∃ n,w'=w.drewN n:=by
 obtain ⟨j,rfl⟩:=Int.eq_ofNat_of_zero_le hi.1
 rw [Int.toNat_natCast]
 have:=Bj7 a cap j p w hb (by omega) (by omega)
 rw [hp] at this; exact this
end Go.Proofs.YtnkpoloeifhflaaGreatDoor.Kit
