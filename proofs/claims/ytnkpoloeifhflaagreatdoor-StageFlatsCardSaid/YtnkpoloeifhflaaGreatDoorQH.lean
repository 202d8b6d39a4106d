/- StageFlatsCard: the law, proved out of contracts of the functions that it reaches (texts merged; names shortened by a program). No condition is laid on it. -/
import Derived.Test.YtnkpoloeifhflaaGreatDoorQG
import Derived.Test.YtnkpoloeifhflaaGreatDoorQF
import Derived.Test.YtnkpoloeifhflaaGreatDoorQE
import Derived.Test.YtnkpoloeifhflaaGreatDoorQD
import Derived.Test.YtnkpoloeifhflaaGreatDoorProg
import Derived.KernelRfl
import Derived.SevenTiedAt
import Derived.Test.YtnkpoloeifhflaaGreatDoorCards
import Derived.Test.YtnkpoloeifhflaaGreatDoorTie
import Derived.Test.YtnkpoloeifhflaaGreatDoorRows
import Derived.WalkKit
import Derived.ProofKit
import Derived.OpenShut
import Derived.ShutString
import Derived.ChangeOld
import Derived.Below
import Derived.SizedLaws
import Derived.ChangeVars
import Derived.LaidLaws
import Derived.LaidHandle
import Derived.Stop.Joined
import Derived.Stop.LaidErr
import Derived.ClosedOfChecked
set_option linter.defProp false
set_option linter.unusedSectionVars false
set_option linter.unusedSimpArgs false
set_option linter.unusedVariables false
namespace Go.Proofs.YtnkpoloeifhflaaGreatDoor
section
open Go.RowKit Go.Sort
variable [AL]
theorem Bmu (c:Ctx) (w:World) (x:EnS) (us:List Value):Ak c w (enT x.1) us↔us=Afv x.1:=by
 unfold Afv
 constructor
 ·intro h
  rw [Ak,Am] at h
  obtain ⟨a,b,rfl,h1,h⟩:=h
  rw [Am] at h
  obtain ⟨a2,b2,rfl,h2,h⟩:=h
  rw [Am] at h
  obtain ⟨a3,b3,rfl,h3,h⟩:=h
  rw [Am] at h
  subst h
  rw [Ak] at h1; rw [Ak] at h2; rw [Ak] at h3
  obtain ⟨_,_,h3⟩:=h3
  have:=NI (fun y hy=>by obtain ⟨b,_,rfl⟩:=List.mem_map.1 hy; exact AgS b) h3
  rw [WF] at this
  rw [this,h1.1,h2.1]; simp
 ·intro e
  have q3:Ak c w (X0 x.1.id) (x.1.id.map fun b=>Value.int .u8 b.toNat):=by
   rw [Ak]
   exact ⟨by rw [List.length_map]; exact x.2.1,fun y hy=>by obtain ⟨b,_,rfl⟩:=List.mem_map.1 hy; rfl,LK _⟩
  have q1:Ak c w (i64 x.1.mode) [.int .i64 x.1.mode]:=by rw [Ak]; exact ⟨rfl,rfl⟩
  have q2:Ak c w (ts x.1.name) [.string (str x.1.name)]:=by rw [Ak]; exact ⟨rfl,rfl⟩
  have q4:Am c w [X0 x.1.id] (x.1.id.map fun b=>Value.int .u8 b.toNat):=by rw [Am]; exact ⟨_,[],by simp,q3,by rw [Am]⟩
  have q5:Am c w [ts x.1.name,X0 x.1.id] (.string (str x.1.name)::x.1.id.map fun b=>Value.int .u8 b.toNat):=by rw [Am]; exact ⟨_,_,rfl,q2,q4⟩
  rw [Ak,Am]
  exact ⟨_,_,e,q1,q5⟩
theorem BjV (x y:En) (hx:x.id.length=20) (hy:y.id.length=20) (nx:x.name.length≤1000000000) (ny:y.name.length≤1000000000):BD Tryz.prog 40 [enT x,enT y] (fun r=>r=i64 (Lib.compareBytes (UT x) (UT y))):=by
 intro β F w vs hF hv
 obtain ⟨v,us,rfl,h1,hv⟩:=BQ.cons.1 hv
 obtain ⟨v2,us,rfl,h2,hv⟩:=BQ.cons.1 hv
 rw [BQ.nil] at hv; subst hv
 have c1:v = .agg (Afv x).toArray:=by
  rcases h1 with h | h | ⟨us,h,e⟩
  ·cases h
  ·cases h
  ·rw [e,(Bmu _ _ ⟨x,hx,nx⟩ us).1 h]; rfl
 have c2:v2 = .agg (Afv y).toArray:=by
  rcases h2 with h | h | ⟨us,h,e⟩
  ·cases h
  ·cases h
  ·rw [e,(Bmu _ _ ⟨y,hy,ny⟩ us).1 h]; rfl
 rw [c1,c2]
 refine (ApZ ⟨x,hx,nx⟩ ⟨y,hy,ny⟩ w).mono ?_
 rintro e w' ⟨rfl,q,os',rfl⟩
 refine ⟨_,_,F,rfl,rfl,Rep.of_val,⟨rfl,rfl,rfl,?_,fun b hb => ?_,fun _ h=>h,fun _ _ h=>h,fun b hb => ?_⟩⟩
 ·show w.heap.size≤(w.heap++os').size
  simp
 ·show (w.heap++os')[b]?=w.heap[b]?
  rw [Array.getElem?_append,if_pos hb]
 ·show b<(w.heap++os').size
  have:=hF.1 b hb
  simp; omega
end
section
open Go.RowKit
variable [AL] [Be] [BB]
theorem BgL {H:List Ob} {o:Ob}:(H++[o])[H.length]?=some o:=by simp
theorem Aol {H:List Ob} {o p:Ob}:(H++[p]++[o])[H.length+1]?=some o:=by simp
theorem A3u {a z:TV}:List.take 1 ((List.replicate 1 z).set 0 a)=[a]:=by simp [List.replicate]
theorem A2S:∀ l:List UInt8,MZ (l.map by8)=true
 | []=>rfl
 | b::l=>by rw [List.map_cons,MZ,A2S l]; rfl
theorem AqC:∀ l:List En,MZ (l.map enT)=true
 | []=>rfl
 | x::l=>by
  rw [List.map_cons,MZ,AqC l]
  show (true && (true && (MZ (x.id.map by8) && true)) && true)=true
  rw [A2S]; rfl
theorem A3x (b:List UInt8) (hb:b.length≤1000000):P8 Tryz.prog 21 [slB b] (A2G b):=by
 refine Au.toFreshV (Ahz (by simp) ?_)
 have one_r:∀ z a:TV,(List.replicate 1 z).set 0 a=[a]:=fun z a=>by simp
 have hsp:([TV.val (.int .u8 ((0:Nat):Int))]:List TV)=[(0:UInt8)].map by8:=rfl
 have hsp2:([TV.val (.int .u8 ((32:Nat):Int))]:List TV)=[(32:UInt8)].map by8:=rfl
 have err:(∀ l,¬ QB l b)→A2G b (.tup [.val (.slice none 0 0),.ifc 45 (.val (.int .i64 21))]):=fun h=>⟨fun l hl=>absurd hl (h l),fun _=>rfl⟩
 simp -dsimp (disch:=first | assumption | omega | (simp only [Ac];try omega)) only [↓Ag,Ae,Ai,Ah,eq_self,↓reduceIte,reduceCtorEq,↓AeD,↓ZX,↓Z5]
 refine Cj (fun q e H=>∃ (es:List En) (rest:List UInt8) (k v cp:Nat),q=rest.length∧es.length+rest.length≤1000000∧PI b es rest∧SE es∧(∀ x∈es,x.name.length≤1000000)∧H[k]?=some (.obj v (.arr es.length 22 (es.map enT)))∧e=[(0,slB rest),(4,.os 22 k v [] 0 es.length cp)]) b.length ?_ ?_
 ·exact ⟨[],b,0,0,0,rfl,by simpa using hb,PI.start b,List.Pairwise.nil,by simp,rfl,rfl⟩
 ·rintro q e H ⟨es,rest,k,v,cp,rfl,hrl,hP,hs,hnm,hk,rfl⟩
  by_cases hr0:rest=[]
  ·subst hr0
   have hso:=BoH es hP.ids (fun e he=>by have:=hnm e he; omega) (by omega)
   have hkt:(es.map enT).take es.length=es.map enT:=List.take_of_length_le (by simp)
   simp -dsimp (disch:=first | assumption | omega | (simp only [Ac];try omega)) only [↓Ag,Ae,Ai,Ah,eq_self,Nat.reduceLT,Nat.reduceEqDiff,↓reduceIte,reduceCtorEq,↓QA,↓AbQ]
   refine hso.lends (args':=[.sl 22 (es.map enT)]) (by simp -dsimp (disch:=first | assumption | omega | (simp only [Ac];try omega)) only [Ai,Ah,eq_self,↓reduceIte,hk,hkt]) fun r hr=>⟨by rw [hr]; rfl,?_⟩
   subst hr
   obtain ⟨f1,f2⟩:=hP.fin hs
   cases hsb:Ahv es with
   | false =>
    have hno:¬ Yq es:=fun h=>by rw [(AqW hP.ids).2 h] at hsb; cases hsb
    simp -dsimp (disch:=first | assumption | omega | (simp only [Ac];try omega)) only [↓Ag,Ae,Ai,Ah,eq_self,Nat.reduceEqDiff,↓reduceIte,reduceCtorEq,↓Bf]
    exact err fun l hl=>hno (f2 l hl).2
   | true =>
    have hok:=(AqW hP.ids).1 hsb
    simp -dsimp (disch:=first | assumption | omega | (simp only [Ac];try omega)) only [↓Ag,Ae,Ai,Ah,eq_self,Nat.reduceEqDiff,↓reduceIte,reduceCtorEq,hk,hkt,↓Bf]
    rw [if_pos (AqC _)]
    exact ⟨fun l hl=>by rw [(f2 l hl).1],fun h=>absurd (f1 hok) (h es)⟩
  have hr1:0<rest.length:=List.length_pos_iff.2 hr0
  have bad:pEn rest=none→A2G b (.tup [.val (.slice none 0 0),.ifc 45 (.val (.int .i64 21))]):=fun h=>err (hP.no hr0 h)
  simp -dsimp (disch:=first | assumption | omega | (simp only [Ac];try omega)) only [↓Ag,Ae,Ai,Ah,eq_self,Nat.reduceEqDiff,↓reduceIte,reduceCtorEq,Nat.reduceLeDiff,↓QA,↓AbN,one_r]
  refine A25 (by rfl) BgL (by simp) ?_
  simp -dsimp (disch:=first | assumption | omega | (simp only [Ac];try omega)) only [↓Ag,Ae,Ai,Ah,eq_self,Nat.reduceEqDiff,↓reduceIte]
  rw [hsp2]
  refine (BpM rest 32 (by omega)).calls rfl fun r hr => ?_
  cases hA:AdB 32 rest with
  | none =>
   rw [hr.2 hA]
   clear hr
   have hp0:pEn rest=none:=by unfold pEn; rw [hA]
   simp -dsimp (disch:=first | assumption | omega | (simp only [Ac];try omega)) only [↓Ag,Ae,Ai,Ah,eq_self,Nat.reduceEqDiff,↓reduceIte,reduceCtorEq,Nat.reduceLeDiff,↓QI,one_r]
   refine A25 (by rfl) Aol (by simp) ?_
   simp -dsimp (disch:=first | assumption | omega | (simp only [Ac];try omega)) only [↓Ag,Ae,Ai,Ah,eq_self,Nat.reduceEqDiff,↓reduceIte]
   rw [hsp]
   refine ((BpM [] 0 (by simp)).argL (.cons AjK (.cons Asy.refl .nil))).calls rfl fun r hr => ?_
   rw [hr.2 rfl]
   clear hr
   simp -dsimp (disch:=first | assumption | omega | (simp only [Ac];try omega)) only [↓Ag,Ae,Ai,Ah,eq_self,Nat.reduceEqDiff,↓reduceIte,↓Kq]
   refine (Afw rest (by omega)).calls rfl fun r hr => ?_
   cases hpo:pO rest with
   | none =>
    obtain ⟨m,_,rfl⟩:=hr.2 hpo
    clear hr
    simp -dsimp (disch:=first | assumption | omega | (simp only [Ac];try omega)) only [↓Ag,Ae,Ai,Ah,eq_self,Nat.reduceEqDiff,↓reduceIte,↓Bo,↓Bf]
    exact bad hp0
   | some m =>
    rw [hr.1 m hpo]
    clear hr
    simp -dsimp (disch:=first | assumption | omega | (simp only [Ac];try omega)) only [↓Ag,Ae,Ai,Ah,eq_self,Nat.reduceEqDiff,↓reduceIte,↓Bo,↓Bf]
    exact bad hp0
  | some i =>
   rw [hr.1 i hA]
   clear hr
   have hi:=(U1 hA).1
   simp -dsimp (disch:=first | assumption | omega | (simp only [Ac];try omega)) only [↓Ag,Ae,Ai,Ah,eq_self,Nat.reduceEqDiff,↓reduceIte,reduceCtorEq,Nat.reduceLeDiff,↓QI,one_r]
   refine A25 (by rfl) Aol (by simp) ?_
   simp -dsimp (disch:=first | assumption | omega | (simp only [Ac];try omega)) only [↓Ag,Ae,Ai,Ah,eq_self,Nat.reduceEqDiff,↓reduceIte]
   rw [hsp]
   refine (BpM (rest.drop (i+1)) 0 (by simp; omega)).calls rfl fun r hr => ?_
   cases hB:AdB 0 (rest.drop (i+1)) with
   | none =>
    rw [hr.2 hB]
    clear hr
    have hp0:pEn rest=none:=by unfold pEn; rw [hA]; simp only; rw [hB]
    simp -dsimp (disch:=first | assumption | omega | (simp only [Ac];try omega)) only [↓Ag,Ae,Ai,Ah,eq_self,Nat.reduceEqDiff,↓reduceIte,↓Kq]
    refine (Afw (rest.take i) (by simp; omega)).calls rfl fun r hr => ?_
    cases hpo:pO (rest.take i) with
    | none =>
     obtain ⟨m,_,rfl⟩:=hr.2 hpo
     clear hr
     simp -dsimp (disch:=first | assumption | omega | (simp only [Ac];try omega)) only [↓Ag,Ae,Ai,Ah,eq_self,Nat.reduceEqDiff,↓reduceIte,↓Bo,↓Bf]
     exact bad hp0
    | some m =>
     rw [hr.1 m hpo]
     clear hr
     simp -dsimp (disch:=first | assumption | omega | (simp only [Ac];try omega)) only [↓Ag,Ae,Ai,Ah,eq_self,Nat.reduceEqDiff,↓reduceIte,↓Bo,↓Bf]
     exact bad hp0
   | some j =>
    rw [hr.1 j hB]
    clear hr
    have hj:=(U1 hB).1
    simp -dsimp (disch:=first | assumption | omega | (simp only [Ac];try omega)) only [↓Ag,Ae,Ai,Ah,eq_self,Nat.reduceEqDiff,↓reduceIte,↓Kq]
    refine (Afw (rest.take i) (by simp; omega)).calls rfl fun r hr => ?_
    cases hpo:pO (rest.take i) with
    | none =>
     have hp0:pEn rest=none:=by unfold pEn; rw [hA]; simp only; rw [hB]; simp only; rw [hpo]
     obtain ⟨m,_,rfl⟩:=hr.2 hpo
     clear hr
     simp -dsimp (disch:=first | assumption | omega | (simp only [Ac];try omega)) only [↓Ag,Ae,Ai,Ah,eq_self,Nat.reduceEqDiff,↓reduceIte,↓Bo,↓Bf]
     exact bad hp0
    | some m =>
     rw [hr.1 m hpo]
     clear hr
     have hpe:pEn rest=if (rest.take i)[0]?=some 48∨((rest.drop (i+1)).drop (j+1)).length<20 then none
      else some (⟨(m:Int),(rest.drop (i+1)).take j,((rest.drop (i+1)).drop (j+1)).take 20⟩,((rest.drop (i+1)).drop (j+1)).drop 20):=by
      unfold pEn; rw [hA]; simp only; rw [hB]; simp only; rw [hpo]
     have hne:rest.take i≠[]:=by
      unfold pO at hpo
      split at hpo
      ·rename_i h; exact h.1
      ·cases hpo
     have hm:m≤1048575:=by
      unfold pO at hpo
      split at hpo
      ·rename_i h; have:=Option.some.inj hpo; omega
      ·cases hpo
     have hnl:((rest.drop (i+1)).take j).length≤1000000:=by simp; omega
     have hrr:rest.length=i+1+(j+1)+((rest.drop (i+1)).drop (j+1)).length:=by simp at hj ⊢; omega
     have hi1:0<i:=by
      rcases Nat.eq_zero_or_pos i with h | h
      ·subst h; exact absurd rfl hne
      ·exact h
     generalize (rest.drop (i+1)).take j=nm at *
     generalize (rest.drop (i+1)).drop (j+1)=R at *
     obtain ⟨c,hc⟩:∃ c,(rest.take i)[0]?=some c:=⟨(rest.take i)[0]'(List.length_pos_iff.2 hne),List.getElem?_eq_getElem _⟩
     rw [hc] at hpe
     have hcl:((rest.take i).map by8)[0]?=some (by8 c):=by rw [List.getElem?_map,hc]; rfl
     generalize rest.take i=md at *
     have hR1:R.length≤1000000:=by omega
     by_cases hc48:c.toNat=48
     ·have hp0:pEn rest=none:=by rw [hpe,if_pos (.inl (by rw [show c=48 from UInt8.toNat_inj.1 hc48]))]
      simp -dsimp (disch:=first | assumption | omega | (simp only [Ac];try omega)) only [↓Ag,Ae,Ai,Ah,eq_self,Nat.reduceEqDiff,↓reduceIte,hcl,hc48,↓Bo,↓Bf]
      exact bad hp0
     by_cases hR20:R.length<20
     ·have hp0:pEn rest=none:=by rw [hpe,if_pos (.inr hR20)]
      simp -dsimp (disch:=first | assumption | omega | (simp only [Ac];try omega)) only [↓Ag,Ae,Ai,Ah,eq_self,Nat.reduceEqDiff,↓reduceIte,hcl,hc48,hR20,↓Bo,↓Bf]
      exact bad hp0
     have hp1:pEn rest=some (⟨(m:Int),nm,R.take 20⟩,R.drop 20):=by
      rw [hpe,if_neg]
      rintro (h | h)
      ·exact hc48 (by rw [Option.some.inj h]; rfl)
      ·exact hR20 h
     clear hpe bad
     have hP2:=hP.step hp1
     have hx20:(R.take 20).length=20:=by simp; omega
     have hmw:(((m:Int) % 18446744073709551616+9223372036854775808) % 18446744073709551616 - 9223372036854775808:Int)=(m:Int):=by omega
     simp -dsimp (disch:=first | assumption | omega | (simp only [Ac];try omega)) only [↓Ag,Ae,Ai,Ah,eq_self,Nat.reduceLT,Nat.reduceEqDiff,↓reduceIte,Nat.reduceAdd,hcl,hc48,hR20,↓Bo,↓Abu]
     have hkl:=(List.getElem?_eq_some_iff.1 hk).1
     obtain ⟨en,hen,hen2⟩:∃ en:En,en=⟨(m:Int),nm,R.take 20⟩∧TV.agg [.val (.int .i64 (m:Int)),.val (.string (str nm)),.arr 20 1 ((R.take 20).map by8)]=enT en:=⟨_,rfl,rfl⟩
     rw [←hen] at hP2
     have hnl':en.name.length≤1000000:=by rw [hen]; exact hnl
     have hx20':en.id.length=20:=by rw [hen]; exact hx20
     rw [hen2]
     have g1:∀ T:List Ob,(H++[Ob.gone 0]++[Ob.gone 0]++[Ob.obj 0 (enT en)]++T)[k]?=some (.obj v (.arr es.length 22 (es.map enT))):=fun T=>by
      rw [List.append_assoc,List.append_assoc,List.append_assoc,List.getElem?_append_left hkl]; exact hk
     have g2:∀ T:List Ob,(H++[Ob.gone 0]++[Ob.gone 0]++[Ob.obj 0 (enT en)]++T)[H.length+1+1]?=some (.obj 0 (enT en)):=fun T=>by
      rw [List.getElem?_append_left (by simp),List.getElem?_append_right (by simp)]; simp
     have g1':=g1 []
     have g2':=g2 []
     rw [List.append_nil] at g1' g2'
     have gl:(H++[Ob.gone 0]++[Ob.gone 0]++[Ob.obj 0 (enT en)]).length=H.length+3:=by simp
     generalize H++[Ob.gone 0]++[Ob.gone 0]++[Ob.obj 0 (enT en)]=H1 at *
     rcases List.eq_nil_or_concat es with rfl | ⟨ys,x,hes⟩
     ·simp -dsimp (disch:=first | assumption | omega | (simp only [Ac];try omega)) only [↓Ag,Ae,Ai,Ah,eq_self,Nat.reduceLT,Nat.reduceEqDiff,Nat.reduceMul,↓reduceIte,Nat.reduceAdd,reduceCtorEq,Nat.reduceLeDiff,g2',g1,A3u,↓QY,↓QM]
      have hel:([]++[en]:List En).length=1:=rfl
      refine Aq (R.drop 20).length (by simp; omega) (by simp) ⟨[]++[en],R.drop 20,k,v+1,1,rfl,by simp; omega,hP2,List.pairwise_singleton _ _,by simpa using hnl',?_,rfl⟩
      rw [List.getElem?_append_left (by simp; omega),List.getElem?_set_self (by omega)]; rfl
     ·rw [List.concat_eq_append] at hes
      have hel:es.length=ys.length+1:=by rw [hes]; simp
      have hlx:(es.map enT)[es.length - 1]?=some (enT x):=by rw [hes]; simp
      have hx:=hP.ids x (by rw [hes]; simp)
      have hxn:=hnm x (by rw [hes]; simp)
      simp -dsimp (disch:=first | assumption | omega | (simp only [Ac];try omega)) only [↓Ag,Ae,Ai,Ah,eq_self,Nat.reduceEqDiff,↓reduceIte,Nat.reduceAdd,g1',g2',hlx,↓QY,↓QM]
      refine (BjV x en hx hx20' (by omega) (by omega)).calls rfl fun r hr => ?_
      subst hr
      by_cases hlt:Lib.compareBytes (UT x) (UT en)<0
      case neg =>
       simp -dsimp (disch:=first | assumption | omega | (simp only [Ac];try omega)) only [↓Ag,Ae,Ai,Ah,eq_self,Nat.reduceEqDiff,↓reduceIte,↓Bf]
       exact err (PI.unsorted (es:=ys) (x:=x) (e:=en) (r:=R.drop 20) (by rw [←hes]; exact hP2) fun h=>hlt (Apn.2 h))
      simp -dsimp (disch:=first | assumption | omega | (simp only [Ac];try omega)) only [↓Ag,Ae,Ai,Ah,eq_self,Nat.reduceEqDiff,↓reduceIte,Nat.reduceAdd,reduceCtorEq,Nat.reduceLeDiff,g2',g1,A3u]
      have hS:SE (es++[en]):=by rw [hes] at hs ⊢; exact hs.snoc (Apn.1 hlt)
      have hL:(es++[en]).length=es.length+1:=by simp
      refine Aq (R.drop 20).length (by simp; omega) (by simp) ⟨es++[en],R.drop 20,k,v+1,es.length+1,rfl,by simp; omega,hP2,hS,?_,?_,by rw [hL]; rfl⟩
      ·intro y hy
       rcases List.mem_append.1 hy with hy | hy
       ·exact hnm y hy
       ·rw [List.mem_singleton] at hy; subst hy; exact hnl'
      ·rw [List.getElem?_append_left (by simp; omega),List.getElem?_set_self (by omega),hL,List.map_append]; rfl
end
section
variable {α:Type} {lt:α→α→Bool}
def Bi (l:List α) (a b:Nat):List α:=(l.drop a).take (b - a)
theorem Ip {l:List α} {a b:Nat} (h:b≤l.length):(Bi l a b).length=b - a:=by unfold Bi; simp; omega
theorem AcB {l:List α} {a b:Nat} (h:a≤b):l=l.take a++Bi l a b++l.drop b:=by
 unfold Bi
 have:l.drop b=(l.drop a).drop (b - a):=by rw [List.drop_drop]; congr 1; omega
 rw [this,List.append_assoc,List.take_append_drop,List.take_append_drop]
theorem AqN {l:List α} {i j a:Nat} (h:j≤a):Bi l i j=Bi (l.take a) i j:=by
 unfold Bi
 rw [List.drop_take,List.take_take]
 congr 1; omega
theorem AnG {l:List α} {i j b:Nat} (h:b≤i):Bi l i j=Bi (l.drop b) (i - b) (j - b):=by
 unfold Bi
 rw [List.drop_drop,show b+(i - b)=i by omega,show j - b - (i - b)=j - i by omega]
theorem Ei {l:List α} {a m b:Nat} (h1:a≤m) (h2:m≤b):Bi l a b=Bi l a m++Bi l m b:=by
 unfold Bi
 have e:l.drop m=(l.drop a).drop (m - a):=by rw [List.drop_drop]; congr 1; omega
 rw [e,show b - a=(m - a)+(b - m) by omega,List.take_add]
theorem Bf5 {l:List α} {n:Nat} (h:l.length≤n):Bi l 0 n=l:=by unfold Bi; rw [List.drop_zero,Nat.sub_zero,List.take_of_length_le h]
theorem Akx {l:List α} {a b k:Nat} (h:a+k<b):(Bi l a b)[k]?=l[a+k]?:=by
 unfold Bi
 rw [List.getElem?_take_of_lt (by omega),List.getElem?_drop]
theorem Adq {l:List α} {a:Nat} {x:α} (h:l[a]?=some x):Bi l a (a+1)=[x]:=by
 obtain ⟨h1,rfl⟩:=List.getElem?_eq_some_iff.1 h
 unfold Bi
 rw [List.drop_eq_getElem_cons h1,show a+1 - a=1 by omega]
 rfl
structure Sg (lt:α→α→Bool) (l l':List α) (a b:Nat):Prop where
 len:l'.length=l.length
 pre:l'.take a=l.take a
 post:l'.drop b=l.drop b
 srt:XD lt (Bi l' a b)
 stb:Qq lt (Bi l' a b) (Bi l a b)
theorem Sg.before {l l':List α} {a b i j:Nat} (h:Sg lt l l' a b) (hj:j≤a):Bi l' i j=Bi l i j:=by rw [AqN hj,h.pre,←AqN hj]
theorem Sg.after {l l':List α} {a b i j:Nat} (h:Sg lt l l' a b) (hi:b≤i):Bi l' i j=Bi l i j:=by rw [AnG hi,h.post,←AnG hi]
theorem Sg.whole {l l':List α} {a b:Nat} (h:Sg lt l l' a b) (hab:a≤b):Qq lt l' l:=by
 rw [AcB (l:=l') hab,AcB (l:=l) hab,h.pre,h.post]
 exact ((Qq.refl _).append h.stb).append (Qq.refl _)
theorem Sg.of {P C C' Q:List α} {a b:Nat} (ha:P.length=a) (hb:a+C.length=b) (hs:XD lt C') (ht:Qq lt C' C) (hl:C'.length=C.length):Sg lt (P++C++Q) (P++C'++Q) a b:=by
 have e:∀ D:List α,D.length=C.length→Bi (P++D++Q) a b=D:=fun D hD=>by
  unfold Bi
  rw [List.append_assoc,←ha,List.drop_left,show b - P.length=D.length by omega,List.take_left]
 refine ⟨by simp [hl],?_,?_,by rw [e _ hl]; exact hs,by rw [e _ hl,e _ rfl]; exact ht⟩
 ·rw [List.append_assoc,List.append_assoc,←ha,List.take_left,List.take_left]
 ·have d:∀ D:List α,D.length=C.length→(P++D++Q).drop b=Q:=fun D hD=>by
   rw [show b=(P++D).length by simp; omega,List.drop_left]
  rw [d _ hl,d _ rfl]
theorem Sg.none {l:List α} {a b:Nat} (h:XD lt (Bi l a b)):Sg lt l l a b:=⟨rfl,rfl,rfl,h,Qq.refl _⟩
theorem Sg.comp {l l1 l2:List α} {a i b:Nat} (h1:Sg lt l l1 a i) (h2:Sg lt l1 l2 a b) (hai:a≤i) (hib:i≤b):Sg lt l l2 a b:=by
 refine ⟨h2.len.trans h1.len,h2.pre.trans h1.pre,?_,h2.srt,?_⟩
 ·have:∀ m:List α,m.drop b=(m.drop i).drop (b - i):=fun m=>by rw [List.drop_drop]; congr 1; omega
  rw [h2.post,this l1,h1.post,←this l]
 ·refine h2.stb.trans ?_
  rw [Ei (l:=l1) hai hib,Ei (l:=l) hai hib,h1.after (Nat.le_refl i)]
  exact h1.stb.append (Qq.refl _)
theorem AsZ:XD lt []:=List.Pairwise.nil
theorem Bff {l:List α} {a b:Nat} (h:l.length≤b):Bi l a b=Bi l a l.length:=by
 unfold Bi
 rw [List.take_of_length_le (by simp; omega),List.take_of_length_le (by simp)]
theorem A36 (hw:SW lt) {A B:List α} {x:α} (hs:XD lt (A++B)) (hB:∀ y∈B,lt x y=true) (hA:∀ y∈A.getLast?,lt x y=false):XD lt (A++x::B)∧Qq lt (A++x::B) (A++B++[x]):=by
 have hp:=List.pairwise_append.1 hs
 have hAll:∀ y∈A,lt x y=false:=fun y hy=>by
  obtain ⟨l,z,rfl⟩:∃ l z,A=l++[z]:=⟨_,_,(List.dropLast_concat_getLast (List.ne_nil_of_mem hy)).symm⟩
  have hz:=hA z (by simp)
  rcases List.mem_append.1 hy with h | h
  ·exact hw.ntr hz ((List.pairwise_append.1 hp.1).2.2 y h z (by simp))
  ·rw [List.mem_singleton] at h; subst h; exact hz
 constructor
 ·refine List.pairwise_append.2 ⟨hp.1,List.pairwise_cons.2 ⟨fun y hy=>hw.asym (hB y hy),hp.2.1⟩,fun y hy z hz => ?_⟩
  rcases List.mem_cons.1 hz with rfl | hz
  ·exact hAll y hy
  ·exact hp.2.2 y hy z hz
 ·rw [List.append_assoc]
  refine (Qq.refl A).append ?_
  exact Qq.swap hw (a:=B) (b:=[x]) fun y hy z hz=>by rw [List.mem_singleton] at hz; subst hz; exact hB y hy
theorem BnJ (hw:SW lt) {B1 B2:List α} {x:α} (hs:XD lt (B1++B2)) (h1:∀ y∈B1,lt y x=true) (h2:∀ y∈B2,lt y x=false):XD lt (B1++x::B2)∧Qq lt (B1++x::B2) (x::(B1++B2)):=by
 have hp:=List.pairwise_append.1 hs
 constructor
 ·refine List.pairwise_append.2 ⟨hp.1,List.pairwise_cons.2 ⟨fun y hy=>h2 y hy,hp.2.1⟩,fun y hy z hz => ?_⟩
  rcases List.mem_cons.1 hz with rfl | hz
  ·exact hw.asym (h1 y hy)
  ·exact hp.2.2 y hy z hz
 ·have e1:B1++x::B2=(B1++[x])++B2:=by simp
  have e2:x::(B1++B2)=([x]++B1)++B2:=by simp
  rw [e1,e2]
  refine Qq.append ?_ (Qq.refl B2)
  exact Qq.swap hw (a:=[x]) (b:=B1) fun y hy z hz=>by rw [List.mem_singleton] at hy; subst hy; exact h1 z hz
theorem AqJ (hw:SW lt) {l:List α} {m b u t:Nat} {y z:α} (hs:XD lt (Bi l m b)) (h1:m≤u) (h2:u≤t) (h3:t<b) (hz:l[u]?=some z) (hy:l[t]?=some y):lt y z=false:=by
 rcases Nat.lt_or_eq_of_le h2 with h | rfl
 ·have e1:(Bi l m b)[u - m]?=some z:=by rw [Akx (by omega),show m+(u - m)=u by omega]; exact hz
  have e2:(Bi l m b)[t - m]?=some y:=by rw [Akx (by omega),show m+(t - m)=t by omega]; exact hy
  obtain ⟨q1,rfl⟩:=List.getElem?_eq_some_iff.1 e1
  obtain ⟨q2,rfl⟩:=List.getElem?_eq_some_iff.1 e2
  exact List.pairwise_iff_getElem.1 hs _ _ q1 q2 (by omega)
 ·rw [hz] at hy; cases hy; exact hw.refl _
theorem Ah3 {A B:List α} {x y:α} {n:Nat} (h:A.length=n):(A++x::B).set n y=A++y::B:=by
 subst h
 rw [List.set_append_right _ _ (Nat.le_refl _),Nat.sub_self]; rfl
theorem Bgi {A B:List α} {x y:α} {n:Nat} (h:A.length=n):((A++x::y::B).set n y).set (n+1) x=A++y::x::B:=by
 rw [Ah3 h,show A++y::y::B=(A++[y])++y::B by simp,Ah3 (by simp [h])]
 simp
theorem Anv {A B:List α} {x y:α} {n:Nat} (h:A.length=n):((A++x::y::B).set (n+1) x).set n y=A++y::x::B:=by
 rw [show A++x::y::B=(A++[x])++y::B by simp,Ah3 (by simp [h]),show (A++[x])++x::B=A++x::x::B by simp,Ah3 h]
theorem AiC {A B:List α} {x:α} {n:Nat} (h:A.length=n):(A++x::B)[n]?=some x:=by subst h; simp
end
section
variable {α:Type} {lt:α→α→Bool}
def Ak4 (P X M Y Q:List α) (i:Nat):List α:=P++(Y.take i++X.drop i)++M++(X.take i++Y.drop i)++Q
theorem BnR (P X M Y Q:List α):Ak4 P X M Y Q 0=P++X++M++Y++Q:=by simp [Ak4]
theorem Bh8 {P X M Y Q:List α} {n:Nat} (hx:X.length=n) (hy:Y.length=n):Ak4 P X M Y Q n=P++Y++M++X++Q:=by
 unfold Ak4
 rw [List.take_of_length_le (by omega),List.drop_eq_nil_of_le (by omega),List.take_of_length_le (by omega),List.drop_eq_nil_of_le (by omega)]
 simp
theorem A3l {P X M Y Q:List α} {n i p q:Nat} {x y:α} (hx:X.length=n) (hy:Y.length=n) (hp:P.length=p) (hq:P.length+n+M.length=q) (hi:i<n) (h1:X[i]?=some x) (h2:Y[i]?=some y) :
  (Ak4 P X M Y Q i)[p+i]?=some x∧(Ak4 P X M Y Q i)[q+i]?=some y∧((Ak4 P X M Y Q i).set (p+i) y).set (q+i) x=Ak4 P X M Y Q (i+1):=by
 obtain ⟨a1,rfl⟩:=List.getElem?_eq_some_iff.1 h1
 obtain ⟨a2,rfl⟩:=List.getElem?_eq_some_iff.1 h2
 have dx:=List.drop_eq_getElem_cons a1
 have dy:=List.drop_eq_getElem_cons a2
 have tx:=List.take_succ_eq_append_getElem a1
 have ty:=List.take_succ_eq_append_getElem a2
 generalize X[i]=x at *
 generalize Y[i]=y at *
 have lx:(X.take i).length=i:=by simp; omega
 have ly:(Y.take i).length=i:=by simp; omega
 have ld:(X.drop (i+1)).length=n - (i+1):=by simp; omega
 have e1:Ak4 P X M Y Q i=(P++Y.take i)++x::(X.drop (i+1)++M++X.take i++y::(Y.drop (i+1)++Q)):=by unfold Ak4; rw [dx,dy]; simp
 have e2:∀ z:α,(P++Y.take i)++z::(X.drop (i+1)++M++X.take i++y::(Y.drop (i+1)++Q))=(P++Y.take i++z::(X.drop (i+1)++M++X.take i))++y::(Y.drop (i+1)++Q):=fun z=>by simp
 have l1:(P++Y.take i).length=p+i:=by simp only [List.length_append,ly]; omega
 have l2:∀ z:α,(P++Y.take i++z::(X.drop (i+1)++M++X.take i)).length=q+i:=fun z=>by simp only [List.length_append,List.length_cons,ly,ld,lx]; omega
 refine ⟨by rw [e1]; exact AiC l1,by rw [e1,e2]; exact AiC (l2 x),?_⟩
 rw [e1,Ah3 l1,e2,Ah3 (l2 y)]
 unfold Ak4
 rw [tx,ty]
 simp
theorem AoR {l:List α} {a s:Nat} (h:a<s) (hs:s≤l.length):(Bi l a s).getLast?=l[s - 1]?:=by
 rw [List.getLast?_eq_getElem?,Ip hs,Akx (by omega)]
 congr 1; omega
theorem An0 {l:List α} {e b:Nat} (h:e<b):(Bi l e b).head?=l[e]?:=by
 rw [List.head?_eq_getElem?,Akx (by omega)]; rfl
theorem AhL {l:List α} {a:Nat}:Bi l a a=[]:=by unfold Bi; rw [Nat.sub_self,List.take_zero]
theorem AmW {l:List α} {a s:Nat} (h:a≤s):l.take s=l.take a++Bi l a s:=by
 unfold Bi
 conv=>lhs; rw [show s=a+(s - a) by omega,List.take_add]
theorem Am9 {l:List α} {e b:Nat} (h:e≤b):l.drop e=Bi l e b++l.drop b:=by
 unfold Bi
 have:l.drop b=(l.drop e).drop (b - e):=by rw [List.drop_drop]; congr 1; omega
 rw [this,List.take_append_drop]
theorem AhO {P C Q:List α} {a b:Nat} (ha:P.length=a) (hb:a+C.length=b):Bi (P++C++Q) a b=C:=by
 unfold Bi
 rw [List.append_assoc,←ha,List.drop_left,show b - P.length=C.length by omega,List.take_left]
theorem A3f {L L1:List α} {a m b s e mid:Nat} (k1:a≤s) (k2:s≤m) (k3:m≤e) (k4:e≤b) (k5:b≤L.length) (k6:s+e=mid+m) (h1:L1=L.take s++Bi L m e++Bi L s m++L.drop e) :
  Bi L1 a s=Bi L a s∧Bi L1 s mid=Bi L m e∧Bi L1 mid e=Bi L s m∧Bi L1 e b=Bi L e b∧L1.length=L.length:=by
 have ls:(L.take s).length=s:=by simp; omega
 have la:(L.take a).length=a:=by simp; omega
 have l1:(Bi L a s).length=s - a:=Ip (by omega)
 have l2:(Bi L s m).length=m - s:=Ip (by omega)
 have l3:(Bi L m e).length=e - m:=Ip (by omega)
 have l4:(Bi L e b).length=b - e:=Ip (by omega)
 refine ⟨?_,?_,?_,?_,?_⟩
 ·rw [h1,AmW (l:=L) k1,show L.take a++Bi L a s++Bi L m e++Bi L s m++L.drop e=L.take a++Bi L a s++(Bi L m e++Bi L s m++L.drop e) by simp]
  exact AhO la (by omega)
 ·rw [h1,List.append_assoc]
  exact AhO ls (by omega)
 ·rw [h1]
  exact AhO (by rw [List.length_append]; omega) (by omega)
 ·rw [h1,Am9 (l:=L) k4,←List.append_assoc]
  exact AhO (by rw [List.length_append,List.length_append]; omega) (by omega)
 ·rw [h1]; simp only [List.length_append,ls,l2,l3,List.length_drop]; omega
theorem Aqu {L:List α} {m s e:Nat} (k2:s≤m) (k3:m≤e) (h:s=m∨m=e):L=L.take s++Bi L m e++Bi L s m++L.drop e:=by
 rcases h with rfl | rfl
 ·rw [AhL,List.append_nil]; exact AcB k3
 ·rw [AhL,List.append_nil]; exact AcB k2
theorem Bf0 (hw:SW lt) {L L1 L2 L3:List α} {a m b s e mid:Nat} (k1:a≤s) (k2:s≤m) (k3:m≤e) (k4:e≤b) (k5:b≤L.length) (k6:s+e=mid+m)
  (ha:XD lt (Bi L a m)) (hb:XD lt (Bi L m b))
  (c1:∀ x y,a<s→e<b→L[s - 1]?=some x→L[e]?=some y→lt y x=false)
  (c2:∀ x y,s<m→m<e→L[e - 1]?=some x→L[s]?=some y→lt x y=true)
  (h1:L1=L.take s++Bi L m e++Bi L s m++L.drop e) (h2:Sg lt L1 L2 a mid) (h3:Sg lt L2 L3 mid b):Sg lt L L3 a b:=by
 have la:(L.take a).length=a:=by simp; omega
 have l1:(Bi L a s).length=s - a:=Ip (by omega)
 have l2:(Bi L s m).length=m - s:=Ip (by omega)
 have l3:(Bi L m e).length=e - m:=Ip (by omega)
 have l4:(Bi L e b).length=b - e:=Ip (by omega)
 have eL1:L1=L.take a++(Bi L a s++Bi L m e)++(Bi L s m++Bi L e b)++L.drop b:=by
  rw [h1,AmW (l:=L) k1,Am9 (l:=L) k4]; simp
 have x1:Bi L1 a mid=Bi L a s++Bi L m e:=by
  rw [eL1,List.append_assoc]
  exact AhO la (by simp only [List.length_append]; omega)
 have x2:Bi L1 mid b=Bi L s m++Bi L e b:=by
  rw [eL1]
  exact AhO (by simp only [List.length_append]; omega) (by simp only [List.length_append]; omega)
 have x3:L1.take a=L.take a:=by rw [eL1,List.append_assoc,List.append_assoc,List.take_left' la]
 have x4:L1.drop b=L.drop b:=by rw [eL1,List.drop_left' (by simp only [List.length_append]; omega)]
 have x5:L1.length=L.length:=by rw [eL1]; simp only [List.length_append,la,l1,l2,l3,l4,List.length_drop]; omega
 have y1:Bi L3 a mid=Bi L2 a mid:=h3.before (Nat.le_refl _)
 have y2:Bi L2 mid b=Bi L1 mid b:=h2.after (Nat.le_refl _)
 have mids:a≤mid∧mid≤b:=by omega
 have x6:L2.drop b=L.drop b:=by
  have:∀ M:List α,M.drop b=(M.drop mid).drop (b - mid):=fun M=>by rw [List.drop_drop]; congr 1; omega
  rw [this L2,h2.post,←this L1,x4]
 have eAB:Bi L a b=(Bi L a s++Bi L s m)++(Bi L m e++Bi L e b):=by
  rw [Ei (l:=L) (a:=a) (m:=m) (b:=b) (by omega) (by omega),Ei (l:=L) k1 k2,Ei (l:=L) k3 k4]
 rw [Ei (l:=L) k1 k2] at ha
 rw [Ei (l:=L) k3 k4] at hb
 have hs1:Qq lt (Bi L2 a mid) (Bi L a s++Bi L m e):=by rw [←x1]; exact h2.stb
 have hs2:Qq lt (Bi L3 mid b) (Bi L s m++Bi L e b):=by rw [←x2,←y2]; exact h3.stb
 have g1:∀ x∈(Bi L a s).getLast?,∀ y∈(Bi L e b).head?,lt y x=false:=fun x hx y hy=>by
  by_cases h:a<s
  ·by_cases h':e<b
   ·rw [AoR h (by omega)] at hx
    rw [An0 h'] at hy
    exact c1 x y h h' hx hy
   ·obtain rfl:e=b:=by omega
    rw [AhL] at hy; cases hy
  ·obtain rfl:a=s:=by omega
   rw [AhL] at hx; cases hx
 have g2:∀ x∈(Bi L m e).getLast?,∀ y∈(Bi L s m).head?,lt x y=true:=fun x hx y hy=>by
  by_cases h:s<m
  ·by_cases h':m<e
   ·rw [AoR h' (by omega)] at hx
    rw [An0 h] at hy
    exact c2 x y h h' hx hy
   ·obtain rfl:m=e:=by omega
    rw [AhL] at hx; cases hx
  ·obtain rfl:s=m:=by omega
   rw [AhL] at hy; cases hy
 obtain ⟨r1,r2⟩:=BeQ hw ha hb g1 g2 h2.srt hs1 h3.srt hs2
 have eC:Bi L3 a b=Bi L2 a mid++Bi L3 mid b:=by rw [Ei (l:=L3) mids.1 mids.2,y1]
 refine ⟨by rw [h3.len,h2.len,x5],?_,by rw [h3.post,x6],by rw [eC]; exact r1,by rw [eC,eAB]; exact r2⟩
 ·have:L3.take a=(L3.take mid).take a:=by rw [List.take_take,Nat.min_eq_left mids.1]
  rw [this,h3.pre,List.take_take,Nat.min_eq_left mids.1,h2.pre,x3]
end
section
open Go.RowKit
variable [AL]
abbrev Af1:TV := .val (.func (.func 44) #[] #[])
def RwJ (H:List Ob) (id ver:Nat) (L:List EnJ):Prop:=H[id]?=some (.obj ver (.arr L.length 24 (L.map enJ)))
theorem RwJ.lt {H:List Ob} {id ver:Nat} {L:List EnJ} (h:RwJ H id ver L):id<H.length:=(List.getElem?_eq_some_iff.1 h).1
abbrev Adt (ver:Nat) (L:List EnJ):Ob := .obj ver (.arr L.length 24 (L.map enJ))
theorem RwJ.set {H:List Ob} {id ver:Nat} {L L':List EnJ} (h:RwJ H id ver L):RwJ (H.set id (Adt ver L')) id ver L':=List.getElem?_set_self h.lt
theorem BeU {L:List EnJ} {i:Nat} {x:EnJ} (h:L[i]?=some x):(L.map enJ)[i]?=some (enJ x):=by rw [List.getElem?_map,h]; rfl
theorem AiS {L:List EnJ} {i:Nat} {x:EnJ}:(L.map enJ).set i (enJ x)=(L.set i x).map enJ:=by rw [List.map_set]
theorem BnB {P X M Y Q:List EnJ} {p q n id ver:Nat} {fn:TV} {H:List Ob} {K:TV→List Ob→Prop} (hx:X.length=n) (hy:Y.length=n) (hp:P.length=p) (hq:P.length+n+M.length=q) (hl:(P++X++M++Y++Q).length≤1000000) (hr:RwJ H id ver (P++X++M++Y++Q))
  (hK:K (.tup []) (H.set id (Adt ver (P++Y++M++X++Q)))):Au Tryz.prog 150 [.os 24 id ver [] 0 (P++X++M++Y++Q).length (P++X++M++Y++Q).length,i64 (p:Int),i64 (q:Int),i64 (n:Int),fn] H K:=by
 refine Nr (by simp) ?_
 have hid:=hr.lt
 have L0:∀ i,(Ak4 P X M Y Q i).length=(P++X++M++Y++Q).length:=fun i=>by unfold Ak4; simp only [List.length_append,List.length_take,List.length_drop]; omega
 have hH0:H=H.set id (Adt ver (Ak4 P X M Y Q 0)):=by
  rw [BnR]
  apply List.ext_getElem?
  intro j
  rw [List.getElem?_set]
  split
  ·rename_i e; subst e; first | exact hr | (rw [if_pos hid]; exact hr)
  ·rfl
 have hpq:p+n≤q:=by omega
 have hqn:q+n≤(P++X++M++Y++Q).length:=by simp only [List.length_append]; omega
 generalize (P++X++M++Y++Q).length=N at *
 simp -dsimp (disch:=first | assumption | omega | (simp only [Ac];try omega)) only [↓Ag,Ae,Ai,Ah,eq_self,Nat.reduceEqDiff,↓reduceIte,Nat.reduceAdd,reduceCtorEq,↓Dk]
 refine Cj (fun c e H'=>∃ i:Nat,c=n - i∧i≤n∧e=[(0,.os 24 id ver [] 0 N N),(1,i64 (p:Int)),(2,i64 (q:Int)),(3,i64 (n:Int)),(10,i64 (i:Int))]∧H'=H.set id (Adt ver (Ak4 P X M Y Q i))) n ?_ ?_
 ·exact ⟨0,by omega,by omega,rfl,hH0⟩
 ·rintro c e H' ⟨i,rfl,hi,rfl,rfl⟩
  have hg:(H.set id (Adt ver (Ak4 P X M Y Q i)))[id]?=some (Adt ver (Ak4 P X M Y Q i)):=List.getElem?_set_self hid
  have hgg:∀ o:Ob,(H.set id o)[id]?=some o:=fun o=>List.getElem?_set_self hid
  have hss:∀ a b:Ob,(H.set id a).set id b=H.set id b:=fun a b=>List.set_set ..
  have hln:(H.set id (Adt ver (Ak4 P X M Y Q i))).length=H.length:=List.length_set ..
  by_cases h:i<n
  ·obtain ⟨x,h1⟩:∃ x,X[i]?=some x:=⟨_,List.getElem?_eq_getElem (by omega)⟩
   obtain ⟨y,h2⟩:∃ y,Y[i]?=some y:=⟨_,List.getElem?_eq_getElem (by omega)⟩
   obtain ⟨s1,s2,s3⟩:=A3l (P:=P) (M:=M) (Q:=Q) hx hy hp hq h h1 h2
   have g1:=BeU s1
   have g2:=BeU s2
   have g3:(((Ak4 P X M Y Q i).map enJ).set (p+i) (enJ y))[q+i]?=some (enJ y):=by rw [List.getElem?_set_ne (by omega)]; exact g2
   have l0:=L0 i
   have s4:(((Ak4 P X M Y Q i).map enJ).set (p+i) (enJ y)).set (q+i) (enJ x)=(Ak4 P X M Y Q (i+1)).map enJ:=by rw [AiS,AiS,s3]
   have l1:=L0 (i+1)
   simp -dsimp (disch:=first | assumption | omega | (simp only [Ac];try omega)) only [↓Ag,Ae,Ai,Ah,eq_self,Nat.reduceEqDiff,↓reduceIte,reduceCtorEq,↓Dk,hgg,hss,l0,g1,g2,g3,s4,Pn,UR,Ahr,UX,↓reduceIte]
   exact Aq (n - (i+1)) (by omega) (by simp) ⟨i+1,rfl,by omega,rfl,by rw [←l1]⟩
  ·obtain rfl:i=n:=by omega
   rw [Bh8 hx hy] at *
   simp -dsimp (disch:=first | assumption | omega | (simp only [Ac];try omega)) only [↓Ag,Ae,Ai,Ah,eq_self,Nat.reduceEqDiff,↓reduceIte,reduceCtorEq,↓Dk]
   exact hK
theorem A3Y {L P X M Y Q:List EnJ} {n N id ver:Nat} {a b c:Int} {fn:TV} {H:List Ob} {K:TV→List Ob→Prop} (hL:L=P++X++M++Y++Q) (hN:N=L.length) (hx:X.length=n) (hy:Y.length=n) (hp:a=(P.length:Int)) (hq:b=((P.length+n+M.length:Nat):Int)) (hc:c=(n:Int)) (hl:N≤1000000) (hr:RwJ H id ver L)
  (hK:K (.tup []) (H.set id (Adt ver (P++Y++M++X++Q)))):Au Tryz.prog 150 [.os 24 id ver [] 0 N N,i64 a,i64 b,i64 c,fn] H K:=by
 subst hN
 subst hL
 subst hp
 subst hq
 subst hc
 exact BnB hx hy rfl rfl hl hr hK
theorem BsZ {P X Y Q:List EnJ} {a m b N id ver:Nat} {fn:TV} {H:List Ob} {K:TV→List Ob→Prop} (hfn:DY fn=false) (hN:N=(P++X++Y++Q).length) (hp:P.length=a) (hm:a+X.length=m) (hb:m+Y.length=b) (hx0:0<X.length) (hy0:0<Y.length) (hl:N≤1000000) (hr:RwJ H id ver (P++X++Y++Q))
  (hK:K (.tup []) (H.set id (Adt ver (P++Y++X++Q)))):Au Tryz.prog 120 [.os 24 id ver [] 0 N N,i64 (a:Int),i64 (m:Int),i64 (b:Int),fn] H K:=by
 refine PH (by simp) ?_
 have hid:=hr.lt
 have hH0:H=H.set id (Adt ver (P++X++Y++Q)):=by
  apply List.ext_getElem?
  intro j
  rw [List.getElem?_set]
  split
  ·rename_i e; subst e; first | exact hr | (rw [if_pos hid]; exact hr)
  ·rfl
 have hgg:∀ o:Ob,(H.set id o)[id]?=some o:=fun o=>List.getElem?_set_self hid
 have hss:∀ a b:Ob,(H.set id a).set id b=H.set id b:=fun a b=>List.set_set ..
 have hNl:P.length+X.length+Y.length+Q.length=N:=by rw [hN]; simp only [List.length_append]
 simp -dsimp (disch:=first | assumption | omega | (simp only [Ac];try omega)) only [↓Ag,Ae,Ai,Ah,eq_self,Nat.reduceEqDiff,↓reduceIte,Nat.reduceAdd,reduceCtorEq,↓Bg]
 refine Cj (fun c e H'=>∃ (i j:Nat) (P' X' Y' Q':List EnJ),c=i+j∧X'.length=i∧Y'.length=j∧0<i∧0<j∧P'.length+i=m∧P'.length+i+j+Q'.length=N∧P'++Y'++X'++Q'=P++Y++X++Q ∧
  e=[(0,.os 24 id ver [] 0 N N),(2,i64 (m:Int)),(4,fn),(10,i64 (i:Int)),(11,i64 (j:Int))]∧H'=H.set id (Adt ver (P'++X'++Y'++Q'))) (X.length+Y.length) ?_ ?_
 ·refine ⟨X.length,Y.length,P,X,Y,Q,rfl,rfl,rfl,hx0,hy0,by omega,by omega,rfl,?_,hH0⟩
  rw [show X.length=m - a by omega,show Y.length=b - m by omega]
  rfl
 ·rintro c e H' ⟨i,j,P',X',Y',Q',rfl,hi,hj,hi0,hj0,hP,hl',hT,rfl,rfl⟩
  by_cases h:i=j
  ·subst h
   simp -dsimp (disch:=first | assumption | omega | (simp only [Ac];try omega)) only [↓Ag,Ae,Ai,Ah,eq_self,Nat.reduceEqDiff,↓reduceIte,reduceCtorEq,↓Bg]
   refine Js (A3Y (L:=P'++X'++Y'++Q') (P:=P') (X:=X') (M:=[]) (Y:=Y') (Q:=Q') (by simp) (by simp only [List.length_append]; omega) hi hj (by omega) (by simp only [List.length_nil]; omega) rfl hl (hgg _) ?_)
   rw [hss,List.append_nil,hT]
   simp -dsimp (disch:=first | assumption | omega | (simp only [Ac];try omega)) only [↓Ag,Ae,Ai,↓Bg]
   exact hK
  ·by_cases h2:j<i
   ·obtain ⟨X1,X2,rfl,hx1⟩:∃ X1 X2,X'=X1++X2∧X1.length=j:=⟨X'.take j,X'.drop j,(List.take_append_drop j X').symm,by simp; omega⟩
    rw [List.length_append] at hi
    simp -dsimp (disch:=first | assumption | omega | (simp only [Ac];try omega)) only [↓Ag,Ae,Ai,Ah,eq_self,Nat.reduceEqDiff,↓reduceIte,reduceCtorEq,↓Bg]
    refine Js (A3Y (L:=P'++(X1++X2)++Y'++Q') (P:=P') (X:=X1) (M:=X2) (Y:=Y') (Q:=Q') (by simp) (by simp only [List.length_append]; omega) hx1 hj (by omega) (by omega) rfl hl (hgg _) ?_)
    rw [hss]
    simp -dsimp (disch:=first | assumption | omega | (simp only [Ac];try omega)) only [↓Ag,Ae,Ai,Ah,eq_self,Nat.reduceEqDiff,↓reduceIte,reduceCtorEq]
    exact Aq (i - j+j) (by omega) (by simp) ⟨i - j,j,P'++Y',X2,X1,Q',rfl,by omega,hx1,by omega,hj0,by simp only [List.length_append]; omega,by simp only [List.length_append]; omega,by rw [←hT]; simp,rfl,by simp⟩
   ·obtain ⟨Y1,Y2,rfl,hy2⟩:∃ Y1 Y2,Y'=Y1++Y2∧Y2.length=i:=⟨Y'.take (j - i),Y'.drop (j - i),(List.take_append_drop _ Y').symm,by simp; omega⟩
    rw [List.length_append] at hj
    simp -dsimp (disch:=first | assumption | omega | (simp only [Ac];try omega)) only [↓Ag,Ae,Ai,Ah,eq_self,Nat.reduceEqDiff,↓reduceIte,reduceCtorEq,↓Bg]
    refine Js (A3Y (L:=P'++X'++(Y1++Y2)++Q') (P:=P') (X:=X') (M:=Y1) (Y:=Y2) (Q:=Q') (by simp) (by simp only [List.length_append]; omega) hi hy2 (by omega) (by omega) rfl hl (hgg _) ?_)
    rw [hss]
    simp -dsimp (disch:=first | assumption | omega | (simp only [Ac];try omega)) only [↓Ag,Ae,Ai,Ah,eq_self,Nat.reduceEqDiff,↓reduceIte,reduceCtorEq]
    exact Aq (i+(j - i)) (by omega) (by simp) ⟨i,j - i,P',Y2,Y1,X'++Q',rfl,hy2,by omega,hi0,by omega,hP,by simp only [List.length_append]; omega,by rw [←hT]; simp,rfl,by simp⟩
end
section
open Go.RowKit
variable [AL]
theorem AjM:AiM Tryz.prog 44=true:=Ad (by kernel_rfl)
theorem RwJ.self {H:List Ob} {id ver:Nat} {L:List EnJ} (h:RwJ H id ver L):H=H.set id (Adt ver L):=by
 have hid:=h.lt
 apply List.ext_getElem?
 intro j
 rw [List.getElem?_set]
 split
 ·rename_i e; subst e; first | exact h | (rw [if_pos hid]; exact h)
 ·rfl
structure Bts (L L':List EnJ) (a i j:Nat):Prop where
 ex:∃ (A B:List EnJ) (x:EnJ),L[i]?=some x∧Bi L a i=A++B∧j=a+A.length∧(∀ y∈B,ltJ x y=true)∧L'=L.take a++(A++x::B)++L.drop (i+1)
theorem Bsf {L:List EnJ} {a b N id ver:Nat} {H:List Ob} {K:TV→List Ob→Prop} (hN:N=L.length) (hab:a≤b) (hb:b≤N) (hl:N≤1000000) (hr:RwJ H id ver L)
  (hK:∀ L',Sg ltJ L L' a b→K (.tup []) (H.set id (Adt ver L'))):Au Tryz.prog 101 [.os 24 id ver [] 0 N N,i64 (a:Int),i64 (b:Int),Af1] H K:=by
 refine Ef (by simp) ?_
 have hid:=hr.lt
 have hgg:∀ o:Ob,(H.set id o)[id]?=some o:=fun o=>List.getElem?_set_self hid
 have hss:∀ a b:Ob,(H.set id a).set id b=H.set id b:=fun a b=>List.set_set ..
 have hH0:=hr.self
 by_cases h1:b≤a+1
 ·have hsg:Sg ltJ L L a b:=Sg.none (by
   unfold Bi
   refine List.Pairwise.sublist (List.take_sublist_take_left (by omega:b - a≤1)) ?_
   cases L.drop a with
   | nil=>simp
   | cons x t=>simp)
  have:=hK L hsg
  rw [←hH0] at this
  simp -dsimp (disch:=first | assumption | omega | (simp only [Ac];try omega)) only [↓Ag,Ae,Ai,Ah,eq_self,Nat.reduceEqDiff,↓reduceIte,Nat.reduceAdd,reduceCtorEq,↓Aj]
  refine Cj (fun c e H'=>c=0∧e=[(0,.os 24 id ver [] 0 N N),(1,i64 (a:Int)),(2,i64 (b:Int)),(3,Af1),(8,i64 ((a+1:Nat):Int))]∧H'=H) 0 ?_ ?_
  ·exact ⟨rfl,rfl,rfl⟩
  ·rintro c e H' ⟨rfl,rfl,rfl⟩
   simp -dsimp (disch:=first | assumption | omega | (simp only [Ac];try omega)) only [↓Ag,Ae,Ai,Ah,eq_self,Nat.reduceEqDiff,↓reduceIte,reduceCtorEq,↓Aj]
   exact this
 simp -dsimp (disch:=first | assumption | omega | (simp only [Ac];try omega)) only [↓Ag,Ae,Ai,Ah,eq_self,Nat.reduceEqDiff,↓reduceIte,Nat.reduceAdd,reduceCtorEq,↓Aj]
 refine Cj (fun c e H'=>∃ (i:Nat) (L':List EnJ),c=b - i∧a+1≤i∧i≤b∧Sg ltJ L L' a i∧e=[(0,.os 24 id ver [] 0 N N),(1,i64 (a:Int)),(2,i64 (b:Int)),(3,Af1),(8,i64 (i:Int))]∧H'=H.set id (Adt ver L')) (b - (a+1)) ?_ ?_
 ·refine ⟨a+1,L,by omega,by omega,by omega,Sg.none ?_,rfl,hH0⟩
  unfold Bi
  rw [show a+1 - a=1 by omega]
  cases L.drop a with
  | nil=>exact AsZ
  | cons x t=>exact List.pairwise_singleton _ _
 ·rintro c e H' ⟨i,L',rfl,hai,hib,hsg,rfl,rfl⟩
  by_cases h:i<b
  case neg =>
   obtain rfl:i=b:=by omega
   simp -dsimp (disch:=first | assumption | omega | (simp only [Ac];try omega)) only [↓Ag,Ae,Ai,Ah,eq_self,Nat.reduceEqDiff,↓reduceIte,reduceCtorEq,↓Aj]
   exact hK L' hsg
  have hlen:=hsg.len
  obtain ⟨x,hx⟩:∃ x,L'[i]?=some x:=⟨_,List.getElem?_eq_getElem (by omega)⟩
  have fin:∀ {L2:List EnJ} {A B:List EnJ},Bi L' a i=A++B→(∀ y∈B,ltJ x y=true)→L2=L'.take a++(A++x::B)++L'.drop (i+1)→(∀ y∈A.getLast?,ltJ x y=false)→Sg ltJ L L2 a (i+1):=fun {L2 A B} hc hB hL2 hA=>by
   have hs:=hsg.srt
   rw [hc] at hs
   obtain ⟨r1,r2⟩:=A36 swJ hs hB hA
   have e1:Bi L' a (i+1)=A++B++[x]:=by rw [Ei (l:=L') (by omega:a≤i) (by omega:i≤i+1),hc,Adq hx]
   refine hsg.comp ?_ (by omega) (by omega)
   have e2:=AcB (l:=L') (by omega:a≤i+1)
   rw [e1] at e2
   rw [hL2]
   conv=>arg 2; rw [e2]
   have hlt:(L'.take a).length=a:=by simp; omega
   have hcl:(Bi L' a (i+1)).length=i+1 - a:=Ip (by omega)
   rw [e1] at hcl
   exact Sg.of hlt (by rw [hcl]; omega) r1 r2 (by simp)
  simp -dsimp (disch:=first | assumption | omega | (simp only [Ac];try omega)) only [↓Ag,Ae,Ai,Ah,eq_self,Nat.reduceEqDiff,↓reduceIte,reduceCtorEq,↓Aj]
  refine Cj (fun c e H'=>∃ (A B:List EnJ) (L2:List EnJ),c=A.length∧Bi L' a i=A++B∧(∀ y∈B,ltJ x y=true)∧L2=L'.take a++(A++x::B)++L'.drop (i+1)∧L2.length=N ∧
   e=[(0,.os 24 id ver [] 0 N N),(1,i64 (a:Int)),(2,i64 (b:Int)),(3,Af1),(8,i64 (i:Int)),(9,i64 ((a+A.length:Nat):Int))]∧H'=H.set id (Adt ver L2)) (i - a) ?_ ?_
  ·have e2:=AcB (l:=L') (by omega:a≤i+1)
   rw [Ei (l:=L') (by omega:a≤i) (by omega:i≤i+1),Adq hx] at e2
   have hcl:(Bi L' a i).length=i - a:=Ip (by omega)
   exact ⟨Bi L' a i,[],L',hcl.symm,by simp,by simp,e2,by omega,by rw [hcl,show a+(i - a)=i by omega]; rfl,rfl⟩
  ·rintro c e H' ⟨A,B,L2,rfl,hc,hB,hL2,hl2,rfl,rfl⟩
   by_cases hA0:A=[]
   ·subst hA0
    have hf:=fin hc hB hL2 (by simp)
    simp -dsimp (disch:=first | assumption | omega | (simp only [Ac];try omega)) only [↓Ag,Ae,Ai,Ah,eq_self,Nat.reduceEqDiff,↓reduceIte,reduceCtorEq,↓Aj]
    exact Aq (b - (i+1)) (by omega) (by simp) ⟨i+1,L2,rfl,by omega,by omega,hf,rfl,rfl⟩
   ·obtain ⟨A',y,rfl⟩:∃ A' y,A=A'++[y]:=⟨_,_,(List.dropLast_concat_getLast hA0).symm⟩
    have hlt:(L'.take a).length=a:=by simp; omega
    have hAl:(A'++[y]).length=A'.length+1:=by simp
    have eL:L2=(L'.take a++A')++y::x::(B++L'.drop (i+1)):=by rw [hL2]; simp
    have p1:(L'.take a++A').length=a+A'.length:=by rw [List.length_append,hlt]
    have g1:L2[a+(A'.length+1) - 1]?=some y:=by rw [show a+(A'.length+1) - 1=a+A'.length by omega,eL]; exact AiC p1
    have g2:L2[a+(A'.length+1)]?=some x:=by
     rw [eL,show (L'.take a++A')++y::x::(B++L'.drop (i+1))=(L'.take a++A'++[y])++x::(B++L'.drop (i+1)) by simp]
     exact AiC (by rw [List.length_append,p1]; rfl)
    have hLb:a+A'.length+1<N:=by rw [←hl2,eL]; simp only [List.length_append,List.length_cons,hlt]; omega
    rw [hAl]
    simp -dsimp (disch:=first | assumption | omega | (simp only [Ac];try omega)) only [↓Ag,Ae,Ai,Ah,eq_self,Nat.reduceEqDiff,↓reduceIte,reduceCtorEq,↓Aj,hgg,hl2,g1,g2,Pn,UR,Agi]
    refine ⟨AjM,?_⟩
    refine Js ((Aqy x y).calls (by simp [DI,UX]) fun r hr => ?_)
    subst hr
    by_cases hxy:ltJ x y=true
    ·have h3:=(AcW x y).2 hxy
     have g3:((L2.map enJ).set (a+(A'.length+1)) (enJ y))[a+(A'.length+1) - 1]?=some (enJ y):=by rw [List.getElem?_set_ne (by omega)]; exact BeU g1
     have g4:((L2.map enJ).set (a+(A'.length+1)) (enJ y)).set (a+(A'.length+1) - 1) (enJ x)=(L'.take a++(A'++x::(y::B))++L'.drop (i+1)).map enJ:=by
      rw [AiS,AiS,show a+(A'.length+1) - 1=a+A'.length by omega,show a+(A'.length+1)=a+A'.length+1 by omega,eL,Anv p1]
      simp
     have l3:(L'.take a++(A'++x::(y::B))++L'.drop (i+1)).length=N:=by rw [←hl2,hL2]; simp
     simp -dsimp (disch:=first | assumption | omega | (simp only [Ac];try omega)) only [↓Ag,Ae,Ai,Ah,eq_self,Nat.reduceEqDiff,↓reduceIte,reduceCtorEq,↓Aj,hgg,hss,hl2,g1,g2,g3,g4,Pn,UR,Ahr,UX,↓reduceIte]
     refine Aq A'.length (by simp) (by simp) ⟨A',y::B,_,rfl,by rw [hc]; simp,fun z hz => ?_,rfl,l3,by rw [show a+(A'.length+1) - 1=a+A'.length by omega]; rfl,by rw [←l3]⟩
     rcases List.mem_cons.1 hz with rfl | hz
     ·exact hxy
     ·exact hB z hz
    ·have h3:¬ BkM x y<0:=fun k=>hxy ((AcW x y).1 k)
     have hf:=fin hc hB hL2 (fun z hz=>by simp at hz; subst hz; exact Bool.eq_false_iff.2 hxy)
     simp -dsimp (disch:=first | assumption | omega | (simp only [Ac];try omega)) only [↓Ag,Ae,Ai,Ah,eq_self,Nat.reduceEqDiff,↓reduceIte,reduceCtorEq,↓Aj]
     exact Aq (b - (i+1)) (by omega) (by simp) ⟨i+1,L2,rfl,by omega,by omega,hf,rfl,rfl⟩
end
section
open Go.RowKit
variable [AL]
theorem AmG {L:List EnJ} {i j:Nat} {y:EnJ} (h:y∈Bi L i j):∃ t,i≤t∧t<j∧L[t]?=some y:=by
 obtain ⟨k,hk⟩:=List.mem_iff_getElem?.1 h
 have hlt:=(List.getElem?_eq_some_iff.1 hk).1
 have:(Bi L i j).length≤j - i:=by unfold Bi; simp; omega
 refine ⟨i+k,by omega,by omega,?_⟩
 rw [←Akx (b:=j) (by omega)]; exact hk
theorem BjN {L:List EnJ} {a m b N id ver:Nat} {H:List Ob} {Q:VEx→Env→List Ob→Prop} {G:Env} (hN:N=L.length) (hm:m=a+1) (hmb:m≤b) (hb:b≤N) (hl:N≤1000000) (hr:RwJ H id ver L) (hsB:XD ltJ (Bi L m b))
  (hQ:∀ L',Sg ltJ L L' a b→∀ e,Q .ret e (H.set id (Adt ver L'))) :
  vwp Tryz.prog CB Q ((0,.os 24 id ver [] 0 N N)::(1,i64 (a:Int))::(2,i64 (m:Int))::(3,i64 (b:Int))::(4,Af1)::G) H:=by
 have hid:=hr.lt
 have hgg:∀ o:Ob,(H.set id o)[id]?=some o:=fun o=>List.getElem?_set_self hid
 have hss:∀ a b:Ob,(H.set id a).set id b=H.set id b:=fun a b=>List.set_set ..
 have hH0:=hr.self
 obtain ⟨x,hx⟩:∃ x,L[a]?=some x:=⟨_,List.getElem?_eq_getElem (by omega)⟩
 have hrr:H[id]?=some (Adt ver L):=hr
 simp -dsimp (disch:=first | assumption | omega | (simp only [Ac];try omega)) only [↓Ag,Ae,Ai,Ah,eq_self,Nat.reduceEqDiff,↓reduceIte,reduceCtorEq,↓KH,↓Lc,↓Lu]
 refine Cj (fun c e H'=>∃ i j:Nat,c=j - i∧m≤i∧i≤j∧j≤b∧(∀ t y,m≤t→t<i→L[t]?=some y→ltJ y x=true)∧(∀ t y,j≤t→t<b→L[t]?=some y→ltJ y x=false) ∧
  e=[(0,.os 24 id ver [] 0 N N),(1,i64 (a:Int)),(4,Af1),(10,i64 (i:Int)),(11,i64 (j:Int))]∧H'=H) (b - m) ?_ ?_
 ·exact ⟨m,b,rfl,by omega,by omega,by omega,by omega,by omega,rfl,rfl⟩
 ·rintro c e H' ⟨i,j,rfl,hi,hij,hjb,hlo,hhi,rfl,hHH⟩
  subst H'
  by_cases h:i<j
  ·have hw:=Ve (n:=i+j) (by omega)
   have hm1:i≤(i+j) / 2 ^ 1:=by omega
   have hm2:(i+j) / 2 ^ 1<j:=by omega
   simp -dsimp (disch:=first | assumption | omega | (simp only [Ac];try omega)) only [↓Ag,Ae,Ai,Ah,eq_self,Nat.reduceEqDiff,Nat.reducePow,↓reduceIte,reduceCtorEq,↓Es,↓LM,hw,Ag8]
   generalize (i+j) / 2 ^ 1=t at *
   obtain ⟨y,hy⟩:∃ y,L[t]?=some y:=⟨_,List.getElem?_eq_getElem (by omega)⟩
   simp -dsimp (disch:=first | assumption | omega | (simp only [Ac];try omega)) only [↓Ag,Ae,Ai,Ah,eq_self,Nat.reduceEqDiff,↓reduceIte,reduceCtorEq,↓LJ,hrr,hx,hy,Pn,UR,Agi]
   refine ⟨AjM,?_⟩
   refine Js ((Aqy y x).calls (by simp [DI,UX]) fun r hr => ?_)
   subst hr
   by_cases hyx:ltJ y x=true
   ·have h3:=(AcW y x).2 hyx
    simp -dsimp (disch:=first | assumption | omega | (simp only [Ac];try omega)) only [↓Ag,Ae,Ai,Ah,eq_self,Nat.reduceEqDiff,↓reduceIte,reduceCtorEq]
    refine Aq (j - (t+1)) (by omega) (by simp) ⟨t+1,j,rfl,by omega,by omega,hjb,fun u z hu hu2 hz => ?_,hhi,rfl,rfl⟩
    cases e:ltJ z x with
    | true=>rfl
    | false =>
     have:=swJ.ntr (AqJ swJ hsB hu (by omega:u≤t) (by omega) hz hy) e
     rw [hyx] at this; cases this
   ·have h3:¬ BkM y x<0:=fun k=>hyx ((AcW y x).1 k)
    simp -dsimp (disch:=first | assumption | omega | (simp only [Ac];try omega)) only [↓Ag,Ae,Ai,Ah,eq_self,Nat.reduceEqDiff,↓reduceIte,reduceCtorEq]
    refine Aq (t - i) (by omega) (by simp) ⟨i,t,rfl,by omega,by omega,by omega,hlo,fun u z hu hu2 hz => ?_,rfl,rfl⟩
    exact swJ.ntr (AqJ swJ hsB (by omega) hu hu2 hy hz) (Bool.eq_false_iff.2 hyx)
  ·obtain rfl:i=j:=by omega
   have hlt:(L.take a).length=a:=by simp; omega
   have hcl:(Bi L m i).length=i - m:=Ip (by omega)
   have e0:=AcB (l:=L) (by omega:a≤i)
   rw [Ei (l:=L) (by omega:a≤m) hi,hm,Adq hx] at e0
   rw [←hm] at e0
   have e1:=AcB (l:=L) (by omega:a≤b)
   rw [Ei (l:=L) (by omega:a≤m) (by omega:m≤b),Ei (l:=L) hi hjb,hm,Adq hx] at e1
   rw [←hm] at e1
   have fin:Sg ltJ L (L.take a++(Bi L m i++[x])++L.drop i) a b:=by
    have hs2:=hsB
    rw [Ei (l:=L) hi hjb] at hs2
    obtain ⟨r1,r2⟩:=BnJ swJ hs2 (x:=x) (fun y hy=>by obtain ⟨t,t1,t2,t3⟩:=AmG hy; exact hlo t y t1 t2 t3) (fun y hy=>by obtain ⟨t,t1,t2,t3⟩:=AmG hy; exact hhi t y t1 t2 t3)
    have e2:L.take a++(Bi L m i++[x])++L.drop i=L.take a++(Bi L m i++x::Bi L i b)++L.drop b:=by
     rw [Am9 (l:=L) hjb]; simp
    have hc2:(Bi L i b).length=b - i:=Ip (by omega)
    rw [e2]
    conv=>arg 2; rw [e1]
    exact Sg.of hlt (by simp only [List.length_append,List.length_singleton,hcl,hc2]; omega) r1 (by simpa using r2) (by simp; omega)
   simp -dsimp (disch:=first | assumption | omega | (simp only [Ac];try omega)) only [↓Ag,Ae,Ai,Ah,eq_self,Nat.reduceEqDiff,↓reduceIte,reduceCtorEq,↓Es,↓Lj,↓Lr]
   refine Cj (fun c e H'=>∃ (B1 B2 L2:List EnJ),c=B2.length∧Bi L m i=B1++B2∧L2=L.take a++(B1++x::B2)++L.drop i∧L2.length=N ∧
    e=[(0,.os 24 id ver [] 0 N N),(10,i64 (i:Int)),(13,i64 ((a+B1.length:Nat):Int))]∧H'=H.set id (Adt ver L2)) (i - m) ?_ ?_
   ·refine ⟨[],Bi L m i,L,hcl.symm,rfl,by rw [List.nil_append]; simpa using e0,hN.symm,rfl,hH0⟩
   ·rintro c e H' ⟨B1,B2,L2,rfl,hc,hL2,hl2,rfl,rfl⟩
    have hBl:B1.length+B2.length=i - m:=by rw [←hcl,hc,List.length_append]
    cases B2 with
    | nil =>
     rw [List.append_nil] at hc
     rw [←hc] at hL2
     rw [List.length_nil] at hBl
     rw [←hL2] at fin
     simp -dsimp (disch:=first | assumption | omega | (simp only [Ac];try omega)) only [↓Ag,Ae,Ai,Ah,eq_self,Nat.reduceEqDiff,↓reduceIte,reduceCtorEq,↓Et,↓LG]
     exact hQ L2 fin _
    | cons y B2 =>
     rw [List.length_cons] at hBl
     have p1:(L.take a++B1).length=a+B1.length:=by rw [List.length_append,hlt]
     have eL:L2=(L.take a++B1)++x::y::(B2++L.drop i):=by rw [hL2]; simp
     have g1:L2[a+B1.length]?=some x:=by rw [eL]; exact AiC p1
     have g2:L2[a+B1.length+1]?=some y:=by
      rw [eL,show (L.take a++B1)++x::y::(B2++L.drop i)=(L.take a++B1++[x])++y::(B2++L.drop i) by simp]
      exact AiC (by rw [List.length_append,p1]; rfl)
     have g3:((L2.map enJ).set (a+B1.length) (enJ y))[a+B1.length+1]?=some (enJ y):=by rw [List.getElem?_set_ne (by omega)]; exact BeU g2
     have g4:((L2.map enJ).set (a+B1.length) (enJ y)).set (a+B1.length+1) (enJ x)=(L.take a++((B1++[y])++x::B2)++L.drop i).map enJ:=by
      rw [AiS,AiS,eL,Bgi p1]; simp
     have l3:(L.take a++((B1++[y])++x::B2)++L.drop i).length=N:=by rw [←hl2,hL2]; simp
     have hb2:a+B1.length+1<N:=by omega
     simp -dsimp (disch:=first | assumption | omega | (simp only [Ac];try omega)) only [↓Ag,Ae,Ai,Ah,eq_self,Nat.reduceEqDiff,↓reduceIte,reduceCtorEq,↓Et,↓Lp,hgg,hss,hl2,g1,g2,g3,g4,Pn,UR,Ahr,UX,↓reduceIte]
     exact Aq B2.length (by simp) (by simp) ⟨B1++[y],B2,_,rfl,by rw [hc]; simp,rfl,l3,by simp only [List.length_append,List.length_singleton]; rfl,by rw [←l3]⟩
theorem A34 {L:List EnJ} {a m b N id ver:Nat} {H:List Ob} {Q:VEx→Env→List Ob→Prop} {G:Env} (hN:N=L.length) (hm:b=m+1) (hmb:a≤m) (hb:b≤N) (hl:N≤1000000) (hr:RwJ H id ver L) (hsA:XD ltJ (Bi L a m))
  (hQ:∀ L',Sg ltJ L L' a b→∀ e,Q .ret e (H.set id (Adt ver L'))) :
  vwp Tryz.prog CP Q ((0,.os 24 id ver [] 0 N N)::(1,i64 (a:Int))::(2,i64 (m:Int))::(3,i64 (b:Int))::(4,Af1)::G) H:=by
 have hid:=hr.lt
 have hgg:∀ o:Ob,(H.set id o)[id]?=some o:=fun o=>List.getElem?_set_self hid
 have hss:∀ a b:Ob,(H.set id a).set id b=H.set id b:=fun a b=>List.set_set ..
 have hH0:=hr.self
 obtain ⟨x,hx⟩:∃ x,L[m]?=some x:=⟨_,List.getElem?_eq_getElem (by omega)⟩
 have hrr:H[id]?=some (Adt ver L):=hr
 simp -dsimp (disch:=first | assumption | omega | (simp only [Ac];try omega)) only [↓Ag,Ae,Ai,Ah,eq_self,Nat.reduceEqDiff,↓reduceIte,reduceCtorEq,↓KX,↓KT,↓KI]
 refine Cj (fun c e H'=>∃ i j:Nat,c=j - i∧a≤i∧i≤j∧j≤m∧(∀ t y,a≤t→t<i→L[t]?=some y→ltJ x y=false)∧(∀ t y,j≤t→t<m→L[t]?=some y→ltJ x y=true) ∧
  e=[(0,.os 24 id ver [] 0 N N),(2,i64 (m:Int)),(4,Af1),(14,i64 (i:Int)),(15,i64 (j:Int))]∧H'=H) (m - a) ?_ ?_
 ·exact ⟨a,m,rfl,by omega,by omega,by omega,by omega,by omega,rfl,rfl⟩
 ·rintro c e H' ⟨i,j,rfl,hi,hij,hjb,hlo,hhi,rfl,hHH⟩
  subst H'
  by_cases h:i<j
  ·have hw:=Ve (n:=i+j) (by omega)
   have hm1:i≤(i+j) / 2 ^ 1:=by omega
   have hm2:(i+j) / 2 ^ 1<j:=by omega
   simp -dsimp (disch:=first | assumption | omega | (simp only [Ac];try omega)) only [↓Ag,Ae,Ai,Ah,eq_self,Nat.reduceEqDiff,Nat.reducePow,↓reduceIte,reduceCtorEq,↓Ee,↓La,hw,Ag8]
   generalize (i+j) / 2 ^ 1=t at *
   obtain ⟨y,hy⟩:∃ y,L[t]?=some y:=⟨_,List.getElem?_eq_getElem (by omega)⟩
   simp -dsimp (disch:=first | assumption | omega | (simp only [Ac];try omega)) only [↓Ag,Ae,Ai,Ah,eq_self,Nat.reduceEqDiff,↓reduceIte,reduceCtorEq,↓KQ,hrr,hx,hy,Pn,UR,Agi]
   refine ⟨AjM,?_⟩
   refine Js ((Aqy x y).calls (by simp [DI,UX]) fun r hr => ?_)
   subst hr
   by_cases hyx:ltJ x y=true
   ·have h3:=(AcW x y).2 hyx
    simp -dsimp (disch:=first | assumption | omega | (simp only [Ac];try omega)) only [↓Ag,Ae,Ai,Ah,eq_self,Nat.reduceEqDiff,↓reduceIte,reduceCtorEq]
    refine Aq (t - i) (by omega) (by simp) ⟨i,t,rfl,by omega,by omega,by omega,hlo,fun u z hu hu2 hz => ?_,rfl,rfl⟩
    cases e:ltJ x z with
    | true=>rfl
    | false =>
     have:=swJ.ntr e (AqJ swJ hsA (by omega) hu hu2 hy hz)
     rw [hyx] at this; cases this
   ·have h3:¬ BkM x y<0:=fun k=>hyx ((AcW x y).1 k)
    simp -dsimp (disch:=first | assumption | omega | (simp only [Ac];try omega)) only [↓Ag,Ae,Ai,Ah,eq_self,Nat.reduceEqDiff,↓reduceIte,reduceCtorEq]
    refine Aq (j - (t+1)) (by omega) (by simp) ⟨t+1,j,rfl,by omega,by omega,hjb,fun u z hu hu2 hz => ?_,hhi,rfl,rfl⟩
    exact swJ.ntr (Bool.eq_false_iff.2 hyx) (AqJ swJ hsA hu (by omega:u≤t) (by omega) hz hy)
  ·obtain rfl:i=j:=by omega
   have hlt:(L.take a).length=a:=by simp; omega
   have hli:(L.take i).length=i:=by simp; omega
   have hcl:(Bi L i m).length=m - i:=Ip (by omega)
   have e0:=AcB (l:=L) (by omega:i≤b)
   rw [hm,Ei (l:=L) (by omega:i≤m) (by omega:m≤m+1),Adq hx,←hm] at e0
   have e1:=AcB (l:=L) (by omega:a≤b)
   rw [hm,Ei (l:=L) (by omega:a≤m) (by omega:m≤m+1),Ei (l:=L) hi hjb,Adq hx,←hm] at e1
   have fin:Sg ltJ L (L.take i++x::Bi L i m++L.drop b) a b:=by
    have hs2:=hsA
    rw [Ei (l:=L) hi hjb] at hs2
    obtain ⟨r1,r2⟩:=A36 swJ hs2 (x:=x) (fun y hy=>by obtain ⟨t,t1,t2,t3⟩:=AmG hy; exact hhi t y t1 t2 t3) (fun y hy=>by obtain ⟨t,t1,t2,t3⟩:=AmG (List.mem_of_getLast? hy); exact hlo t y t1 t2 t3)
    have e2:L.take i++x::Bi L i m++L.drop b=L.take a++(Bi L a i++x::Bi L i m)++L.drop b:=by
     rw [AmW (l:=L) hi]; simp
    have hc2:(Bi L a i).length=i - a:=Ip (by omega)
    rw [e2]
    conv=>arg 2; rw [e1]
    exact Sg.of hlt (by simp only [List.length_append,List.length_singleton,hcl,hc2]; omega) r1 (by simpa using r2) (by simp)
   simp -dsimp (disch:=first | assumption | omega | (simp only [Ac];try omega)) only [↓Ag,Ae,Ai,Ah,eq_self,Nat.reduceEqDiff,↓reduceIte,reduceCtorEq,↓Ee,↓Ld,↓KW]
   refine Cj (fun c e H'=>∃ (A1 A2 L2:List EnJ),c=A1.length∧Bi L i m=A1++A2∧L2=L.take i++(A1++x::A2)++L.drop b∧L2.length=N ∧
    e=[(0,.os 24 id ver [] 0 N N),(14,i64 (i:Int)),(17,i64 ((i+A1.length:Nat):Int))]∧H'=H.set id (Adt ver L2)) (m - i) ?_ ?_
   ·refine ⟨Bi L i m,[],L,hcl.symm,by simp,e0,hN.symm,by rw [hcl,show i+(m - i)=m by omega]; rfl,hH0⟩
   ·rintro c e H' ⟨A1,A2,L2,rfl,hc,hL2,hl2,rfl,rfl⟩
    by_cases hA0:A1=[]
    ·subst hA0
     rw [List.nil_append] at hc hL2
     rw [←hc] at hL2
     rw [←hL2] at fin
     simp -dsimp (disch:=first | assumption | omega | (simp only [Ac];try omega)) only [↓Ag,Ae,Ai,Ah,eq_self,Nat.reduceEqDiff,↓reduceIte,reduceCtorEq,↓Ea,↓KO]
     exact hQ L2 fin _
    ·obtain ⟨A',y,rfl⟩:∃ A' y,A1=A'++[y]:=⟨_,_,(List.dropLast_concat_getLast hA0).symm⟩
     have hAl:(A'++[y]).length=A'.length+1:=by simp
     have p1:(L.take i++A').length=i+A'.length:=by rw [List.length_append,hli]
     have eL:L2=(L.take i++A')++y::x::(A2++L.drop b):=by rw [hL2]; simp
     have g1:L2[i+(A'.length+1) - 1]?=some y:=by rw [show i+(A'.length+1) - 1=i+A'.length by omega,eL]; exact AiC p1
     have g2:L2[i+(A'.length+1)]?=some x:=by
      rw [eL,show (L.take i++A')++y::x::(A2++L.drop b)=(L.take i++A'++[y])++x::(A2++L.drop b) by simp]
      exact AiC (by rw [List.length_append,p1]; rfl)
     have g3:((L2.map enJ).set (i+(A'.length+1)) (enJ y))[i+(A'.length+1) - 1]?=some (enJ y):=by rw [List.getElem?_set_ne (by omega)]; exact BeU g1
     have g4:((L2.map enJ).set (i+(A'.length+1)) (enJ y)).set (i+(A'.length+1) - 1) (enJ x)=(L.take i++(A'++x::(y::A2))++L.drop b).map enJ:=by
      rw [AiS,AiS,show i+(A'.length+1) - 1=i+A'.length by omega,show i+(A'.length+1)=i+A'.length+1 by omega,eL,Anv p1]
      simp
     have l3:(L.take i++(A'++x::(y::A2))++L.drop b).length=N:=by rw [←hl2,hL2]; simp
     have hLb:i+A'.length+1<N:=by rw [←hl2,eL]; simp only [List.length_append,List.length_cons,hli]; omega
     rw [hAl]
     simp -dsimp (disch:=first | assumption | omega | (simp only [Ac];try omega)) only [↓Ag,Ae,Ai,Ah,eq_self,Nat.reduceEqDiff,↓reduceIte,reduceCtorEq,↓Ea,↓KR,hgg,hss,hl2,g1,g2,g3,g4,Pn,UR,Ahr,UX,↓reduceIte]
     exact Aq A'.length (by simp) (by simp) ⟨A',y::A2,_,rfl,by rw [hc]; simp,rfl,l3,by rw [show i+(A'.length+1) - 1=i+A'.length by omega]; rfl,by rw [←l3]⟩
end
section
open Go.RowKit
variable [AL]
theorem Blj {L:List EnJ} {a m b s e N id ver mid:Nat} {H:List Ob} {K:TV→List Ob→Prop} (hN:N=L.length) (k1:a≤s) (k2:s≤m) (k3:m≤e) (k4:e≤b) (hb:b≤N) (hl:N≤1000000) (hr:RwJ H id ver L)
  (ham:a≤mid) (hmb:mid≤b) (hse:s+e=mid+m) (hA:XD ltJ (Bi L a m)) (hB:XD ltJ (Bi L m b))
  (c1:∀ x y,a<s→e<b→L[s - 1]?=some x→L[e]?=some y→ltJ y x=false)
  (c2:∀ x y,s<m→m<e→L[e - 1]?=some x→L[s]?=some y→ltJ x y=true)
  (rec1:∀ {L1:List EnJ} {H1:List Ob} {K1:TV→List Ob→Prop},N=L1.length→a<s→s<mid→RwJ H1 id ver L1→XD ltJ (Bi L1 a s)→XD ltJ (Bi L1 s mid)→(∀ L',Sg ltJ L1 L' a mid→K1 (.tup []) (H1.set id (Adt ver L')))→Au Tryz.prog 102 [.os 24 id ver [] 0 N N,i64 (a:Int),i64 (s:Int),i64 (mid:Int),Af1] H1 K1)
  (rec2:∀ {L1:List EnJ} {H1:List Ob} {K1:TV→List Ob→Prop},N=L1.length→mid<e→e<b→RwJ H1 id ver L1→XD ltJ (Bi L1 mid e)→XD ltJ (Bi L1 e b)→(∀ L',Sg ltJ L1 L' mid b→K1 (.tup []) (H1.set id (Adt ver L')))→Au Tryz.prog 102 [.os 24 id ver [] 0 N N,i64 (mid:Int),i64 (e:Int),i64 (b:Int),Af1] H1 K1)
  (hK:∀ L',Sg ltJ L L' a b→K (.tup []) (H.set id (Adt ver L'))) :
  vwp Tryz.prog CE (Acy AP K) [(0,.os 24 id ver [] 0 N N),(1,i64 (a:Int)),(2,i64 (m:Int)),(3,i64 (b:Int)),(4,Af1),(18,i64 (mid:Int)),(19,i64 ((mid+m:Nat):Int)),(20,i64 (s:Int)),(21,i64 (s:Int)),(22,i64 ((mid+m - 1:Nat):Int))] H:=by
 have hid:=hr.lt
 have hgg:∀ o:Ob,(H.set id o)[id]?=some o:=fun o=>List.getElem?_set_self hid
 have hss:∀ a b:Ob,(H.set id a).set id b=H.set id b:=fun a b=>List.set_set ..
 have hH0:=hr.self
 have hA2:=hA
 have hB2:=hB
 rw [Ei (l:=L) k1 k2] at hA2
 rw [Ei (l:=L) k3 k4] at hB2
 have pA:=List.pairwise_append.1 hA2
 have pB:=List.pairwise_append.1 hB2
 have fn0:DY Af1=false:=by simp [DY]
 have he:mid+m - s=e:=by omega
 -- behind the turn
 have t29:∀ L1:List EnJ,L1=L.take s++Bi L m e++Bi L s m++L.drop e→∀ E:Env,get E 0 = .os 24 id ver [] 0 N N→get E 1=i64 (a:Int)→get E 3=i64 (b:Int)→get E 4=Af1→get E 18=i64 (mid:Int)→get E 20=i64 (s:Int)→get E 24=i64 (e:Int)→vwp Tryz.prog Cm (Acy AP K) E (H.set id (Adt ver L1)):=by
  intro L1 h1 E z0 z1 z3 z4 z18 z20 z24
  obtain ⟨q1,q2,q3,q4,q5⟩:=A3f (L:=L) (a:=a) (b:=b) k1 k2 k3 k4 (by omega) hse h1
  have t28:∀ L2:List EnJ,Sg ltJ L1 L2 a mid→∀ E:Env,get E 0 = .os 24 id ver [] 0 N N→get E 3=i64 (b:Int)→get E 4=Af1→get E 18=i64 (mid:Int)→get E 24=i64 (e:Int)→vwp Tryz.prog CO (Acy AP K) E (H.set id (Adt ver L2)):=by
   intro L2 h2 E w0 w3 w4 w18 w24
   have d1:Bi L2 mid e=Bi L s m:=by rw [h2.after (Nat.le_refl _),q3]
   have d2:Bi L2 e b=Bi L e b:=by rw [h2.after (by omega),q4]
   have fin:∀ L3,Sg ltJ L2 L3 mid b→Sg ltJ L L3 a b:=fun L3 h3=>Bf0 swJ k1 k2 k3 k4 (by omega) hse hA hB c1 c2 h1 h2 h3
   by_cases g1:mid<e
   ·by_cases g2:e<b
    ·simp -dsimp (disch:=first | assumption | omega | (simp only [Ac];try omega)) only [↓Ag,Ae,Ai,Ah,eq_self,Nat.reduceEqDiff,↓reduceIte,reduceCtorEq,w0,w3,w4,w18,w24,↓Cb]
     refine Js (rec2 (by rw [h2.len,q5]; exact hN) g1 g2 (hgg _) (by rw [d1]; exact pA.2.1) (by rw [d2]; exact pB.2.1) fun L3 h3 => ?_)
     have:=hK L3 (fin L3 h3)
     simp -dsimp (disch:=first | assumption | omega | (simp only [Ac];try omega)) only [↓Ag,Ae,Ai,hss,↓AV]
     exact this
    ·have e1:e=b:=by omega
     have:=hK L2 (fin L2 (Sg.none (by rw [←e1,d1]; exact pA.2.1)))
     simp -dsimp (disch:=first | assumption | omega | (simp only [Ac];try omega)) only [↓Ag,Ae,Ai,Ah,eq_self,Nat.reduceEqDiff,↓reduceIte,reduceCtorEq,w0,w3,w4,w18,w24,↓Cb,↓AV]
     exact this
   ·have e1:s=m:=by omega
    have e2:mid=e:=by omega
    have:=hK L2 (fin L2 (Sg.none (by rw [e2,d2]; exact pB.2.1)))
    simp -dsimp (disch:=first | assumption | omega | (simp only [Ac];try omega)) only [↓Ag,Ae,Ai,Ah,eq_self,Nat.reduceEqDiff,↓reduceIte,reduceCtorEq,w0,w3,w4,w18,w24,↓Cb,↓AV]
    exact this
  by_cases g1:a<s
  ·by_cases g2:s<mid
   ·simp -dsimp (disch:=first | assumption | omega | (simp only [Ac];try omega)) only [↓Ag,Ae,Ai,Ah,eq_self,Nat.reduceEqDiff,↓reduceIte,reduceCtorEq,z0,z1,z3,z4,z18,z20,z24,↓BU]
    refine Js (rec1 (by rw [q5]; exact hN) g1 g2 (hgg _) (by rw [q1]; exact pA.1) (by rw [q2]; exact pB.1) fun L2 h2 => ?_)
    rw [hss]
    simp -dsimp (disch:=first | assumption | omega | (simp only [Ac];try omega)) only [↓Ag,Ae,Ai,Ah,eq_self,Nat.reduceEqDiff,↓reduceIte,reduceCtorEq]
    exact t28 L2 h2 _ rfl rfl rfl rfl rfl
   ·have e1:m=e:=by omega
    have e2:s=mid:=by omega
    have hsg:Sg ltJ L1 L1 a mid:=Sg.none (by rw [←e2,q1]; exact pA.1)
    simp -dsimp (disch:=first | assumption | omega | (simp only [Ac];try omega)) only [↓Ag,Ae,Ai,Ah,eq_self,Nat.reduceEqDiff,↓reduceIte,reduceCtorEq,z0,z1,z3,z4,z18,z20,z24,↓BU]
    exact t28 L1 hsg _ rfl rfl rfl rfl rfl
  ·have e1:a=s:=by omega
   have hsg:Sg ltJ L1 L1 a mid:=Sg.none (by rw [e1,q2]; exact pB.1)
   simp -dsimp (disch:=first | assumption | omega | (simp only [Ac];try omega)) only [↓Ag,Ae,Ai,Ah,eq_self,Nat.reduceEqDiff,↓reduceIte,reduceCtorEq,z0,z1,z3,z4,z18,z20,z24,↓BU]
   exact t28 L1 hsg _ rfl rfl rfl rfl rfl
 have hsub:((mid+m:Nat):Int) - (s:Int)=(e:Int):=by omega
 by_cases g1:s<m
 ·by_cases g2:m<e
  ·have lx:(Bi L s m).length=m - s:=Ip (by omega)
   have ly:(Bi L m e).length=e - m:=Ip (by omega)
   have e0:L=L.take s++Bi L s m++Bi L m e++L.drop e:=by
    have:=AcB (l:=L) (by omega:s≤e)
    rw [Ei (l:=L) k2 k3] at this
    simpa using this
   have hr2:RwJ H id ver (L.take s++Bi L s m++Bi L m e++L.drop e):=by rw [←e0]; exact hr
   simp -dsimp (disch:=first | assumption | omega | (simp only [Ac];try omega)) only [↓Ag,Ae,Ai,Ah,eq_self,Nat.reduceEqDiff,↓reduceIte,reduceCtorEq,↓BZ,↓BV,hsub]
   refine Js (BsZ (P:=L.take s) (X:=Bi L s m) (Y:=Bi L m e) (Q:=L.drop e) fn0 (by rw [←e0]; exact hN) (by simp; omega) (by omega) (by omega) (by omega) (by omega) hl hr2 ?_)
   simp -dsimp (disch:=first | assumption | omega | (simp only [Ac];try omega)) only [↓Ag,Ae,Ai,Ah,eq_self,Nat.reduceEqDiff,↓reduceIte,reduceCtorEq]
   exact t29 _ rfl _ rfl rfl rfl rfl rfl rfl rfl
  ·have e1:m=e:=by omega
   have:=t29 L (Aqu k2 k3 (.inr e1))
   rw [←hH0] at this
   simp -dsimp (disch:=first | assumption | omega | (simp only [Ac];try omega)) only [↓Ag,Ae,Ai,Ah,eq_self,Nat.reduceEqDiff,↓reduceIte,reduceCtorEq,↓BZ,↓BV,hsub]
   exact this _ rfl rfl rfl rfl rfl rfl rfl
 ·have e1:s=m:=by omega
  have:=t29 L (Aqu k2 k3 (.inl e1))
  rw [←hH0] at this
  simp -dsimp (disch:=first | assumption | omega | (simp only [Ac];try omega)) only [↓Ag,Ae,Ai,Ah,eq_self,Nat.reduceEqDiff,↓reduceIte,reduceCtorEq,↓BZ,↓BV,hsub]
  exact this _ rfl rfl rfl rfl rfl rfl rfl
theorem BsJ:∀ (k:Nat) {L:List EnJ} {a m b N id ver:Nat} {H:List Ob} {K:TV→List Ob→Prop},b - a≤k→N=L.length→a<m→m<b→b≤N→N≤1000000→RwJ H id ver L→XD ltJ (Bi L a m)→XD ltJ (Bi L m b) →
  (∀ L',Sg ltJ L L' a b→K (.tup []) (H.set id (Adt ver L')))→Au Tryz.prog 102 [.os 24 id ver [] 0 N N,i64 (a:Int),i64 (m:Int),i64 (b:Int),Af1] H K:=by
 intro k
 induction k using Nat.strongRecOn with
 | ind k ih =>
  intro L a m b N id ver H K hk hN ham hmb hb hl hr hA hB hK
  refine NM (by simp) ?_
  have hrr:H[id]?=some (Adt ver L):=hr
  by_cases h1:m=a+1
  ·have h1':m - a=1:=by omega
   simp -dsimp (disch:=first | assumption | omega | (simp only [Ac];try omega)) only [↓Ag,Ae,Ai,Ah,eq_self,Nat.reduceEqDiff,↓reduceIte,Nat.reduceAdd,reduceCtorEq,↓BC,↓A8,h1']
   refine BjN hN h1 (by omega) hb hl hr hB fun L' h e => ?_
   have:=hK L' h
   simp -dsimp (disch:=first | assumption | omega | (simp only [Ac];try omega)) only [↓Ag,↓AV]
   exact this
  have h1':¬ m - a=1:=by omega
  by_cases h2:b=m+1
  ·have h2':b - m=1:=by omega
   simp -dsimp (disch:=first | assumption | omega | (simp only [Ac];try omega)) only [↓Ag,Ae,Ai,Ah,eq_self,Nat.reduceEqDiff,↓reduceIte,Nat.reduceAdd,reduceCtorEq,↓BC,↓A8,↓Cc,↓BX,h1',h2']
   refine A34 hN h2 (by omega) hb hl hr hA fun L' h e => ?_
   have:=hK L' h
   simp -dsimp (disch:=first | assumption | omega | (simp only [Ac];try omega)) only [↓Ag,↓AV]
   exact this
  have h2':¬ b - m=1:=by omega
  have hw:=Ve (n:=a+b) (by omega)
  obtain ⟨mid,hmid⟩:∃ mid,mid=(a+b) / 2 ^ 1:=⟨_,rfl⟩
  have hm1:2*mid≤a+b:=by omega
  have hm2:a+b≤2*mid+1:=by omega
  -- the search,and what follows
  have rest:∀ lo hi:Nat,(lo=a∧hi=m∧m≤mid∨lo=mid+m - b∧hi=mid∧mid<m)→vwp Tryz.prog CJ (Acy AP K) [(0,.os 24 id ver [] 0 N N),(1,i64 (a:Int)),(2,i64 (m:Int)),(3,i64 (b:Int)),(4,Af1),(18,i64 (mid:Int)),(19,i64 ((mid+m:Nat):Int)),(20,i64 (lo:Int)),(21,i64 (hi:Int))] H:=by
   intro lo hi hlh
   simp -dsimp (disch:=first | assumption | omega | (simp only [Ac];try omega)) only [↓Ag,Ae,Ai,Ah,eq_self,Nat.reduceEqDiff,↓reduceIte,reduceCtorEq,↓KL,↓Lh]
   refine Cj (fun c e H'=>∃ s r:Nat,c=r - s∧lo≤s∧s≤r∧r≤hi∧(∀ x y,lo<s→L[s - 1]?=some x→L[mid+m - s]?=some y→ltJ y x=false)∧(∀ x y,r<hi→L[mid+m - r - 1]?=some x→L[r]?=some y→ltJ x y=true) ∧
    e=[(0,.os 24 id ver [] 0 N N),(1,i64 (a:Int)),(2,i64 (m:Int)),(3,i64 (b:Int)),(4,Af1),(18,i64 (mid:Int)),(19,i64 ((mid+m:Nat):Int)),(20,i64 (s:Int)),(21,i64 (r:Int)),(22,i64 ((mid+m - 1:Nat):Int))]∧H'=H) (hi - lo) ?_ ?_
   ·exact ⟨lo,hi,rfl,by omega,by omega,by omega,fun x y h=>by omega,fun x y h=>by omega,rfl,rfl⟩
   ·rintro c e H' ⟨s,r,rfl,hs,hsr,hrh,hlo,hhi,rfl,hHH⟩
    subst H'
    by_cases h:s<r
    ·have hw2:=Ve (n:=s+r) (by omega)
     have hc1:s≤(s+r) / 2 ^ 1:=by omega
     have hc2:(s+r) / 2 ^ 1<r:=by omega
     simp -dsimp (disch:=first | assumption | omega | (simp only [Ac];try omega)) only [↓Ag,Ae,Ai,Ah,eq_self,Nat.reduceEqDiff,Nat.reducePow,↓reduceIte,reduceCtorEq,↓D9,↓KZ,hw2,Ag8]
     generalize (s+r) / 2 ^ 1=t at *
     obtain ⟨y,hy⟩:∃ y,L[t]?=some y:=⟨_,List.getElem?_eq_getElem (by omega)⟩
     obtain ⟨x,hx⟩:∃ x,L[mid+m - 1 - t]?=some x:=⟨_,List.getElem?_eq_getElem (by omega)⟩
     have hbx:mid+m - 1 - t<N:=by omega
     have hby:t<N:=by omega
     simp -dsimp (disch:=first | assumption | omega | (simp only [Ac];try omega)) only [↓Ag,Ae,Ai,Ah,eq_self,Nat.reduceEqDiff,↓reduceIte,reduceCtorEq,↓KJ,hrr,hx,hy,Pn,UR,Agi]
     refine ⟨AjM,?_⟩
     refine Js ((Aqy x y).calls (by simp [DI,UX]) fun z hz => ?_)
     subst hz
     by_cases hxy:ltJ x y=true
     ·have h3:=(AcW x y).2 hxy
      simp -dsimp (disch:=first | assumption | omega | (simp only [Ac];try omega)) only [↓Ag,Ae,Ai,Ah,eq_self,Nat.reduceEqDiff,↓reduceIte,reduceCtorEq]
      refine Aq (t - s) (by omega) (by simp) ⟨s,t,rfl,by omega,by omega,by omega,hlo,fun x' y' _ hx' hy' => ?_,rfl,rfl⟩
      rw [show mid+m - t - 1=mid+m - 1 - t by omega,hx] at hx'
      rw [hy] at hy'
      cases hx'; cases hy'
      exact hxy
     ·have h3:¬ BkM x y<0:=fun k=>hxy ((AcW x y).1 k)
      simp -dsimp (disch:=first | assumption | omega | (simp only [Ac];try omega)) only [↓Ag,Ae,Ai,Ah,eq_self,Nat.reduceEqDiff,↓reduceIte,reduceCtorEq]
      refine Aq (r - (t+1)) (by omega) (by simp) ⟨t+1,r,rfl,by omega,by omega,hrh,fun x' y' _ hx' hy' => ?_,hhi,rfl,rfl⟩
      rw [show t+1 - 1=t by omega,hy] at hx'
      rw [show mid+m - (t+1)=mid+m - 1 - t by omega,hx] at hy'
      cases hx'; cases hy'
      exact Bool.eq_false_iff.2 hxy
    ·obtain rfl:s=r:=by omega
     simp -dsimp (disch:=first | assumption | omega | (simp only [Ac];try omega)) only [↓Ag,Ae,Ai,Ah,eq_self,Nat.reduceEqDiff,↓reduceIte,reduceCtorEq,↓D9]
     refine Blj (e:=mid+m - s) hN (by omega) (by omega) (by omega) (by omega) hb hl hr (by omega) (by omega) (by omega) hA hB (fun x y g1 g2 gx gy=>hlo x y (by omega) gx gy) (fun x y g1 g2 gx gy=>hhi x y (by omega) gx gy) ?_ ?_ hK
     ·intro L1 H1 K1 q1 q2 q3 q4 q5 q6 q7
      exact ih (mid - a) (by omega) (Nat.le_refl _) q1 q2 q3 (by omega) hl q4 q5 q6 q7
     ·intro L1 H1 K1 q1 q2 q3 q4 q5 q6 q7
      exact ih (b - mid) (by omega) (Nat.le_refl _) q1 q2 q3 (by omega) hl q4 q5 q6 q7
  by_cases h3:mid<m
  ·have:=rest (mid+m - b) mid (.inr ⟨rfl,rfl,h3⟩)
   simp -dsimp (disch:=first | assumption | omega | (simp only [Ac];try omega)) only [↓Ag,Ae,Ai,Ah,eq_self,Nat.reduceEqDiff,Nat.reducePow,↓reduceIte,Nat.reduceAdd,reduceCtorEq,↓BC,↓A8,↓Cc,↓BX,h1',h2',↓Ed,↓Eg,↓Ec,↓Eb,hw,Ag8,←hmid]
   exact this
  ·have:=rest a m (.inl ⟨rfl,rfl,by omega⟩)
   simp -dsimp (disch:=first | assumption | omega | (simp only [Ac];try omega)) only [↓Ag,Ae,Ai,Ah,eq_self,Nat.reduceEqDiff,Nat.reducePow,↓reduceIte,Nat.reduceAdd,reduceCtorEq,↓BC,↓A8,↓Cc,↓BX,h1',h2',↓Ed,↓Eg,↓Ec,↓Eb,hw,Ag8,←hmid]
   exact this
end
section
open Go.RowKit
variable [AL]
def Bo1 (L:List EnJ) (s:Nat):Prop:=∀ j,XD ltJ (Bi L (j*s) (j*s+s))
theorem Aq8 {L:List EnJ} {x y:Nat} (h:L.length≤x):XD ltJ (Bi L x y):=by
 unfold Bi
 rw [List.drop_eq_nil_of_le h,List.take_nil]; exact AsZ
theorem AjG {L:List EnJ} {x y:Nat} (h:L.length≤y):Bi L x y=Bi L x L.length:=Bff h
structure AqF (L L':List EnJ) (s a k:Nat):Prop where
 at_:a=k*(2*s)
 len:L'.length=L.length
 stb:Qq ltJ L' L
 done:∀ j,j<k→XD ltJ (Bi L' (j*(2*s)) (j*(2*s)+2*s))
 left:∀ x j,x=j*s→a≤x→XD ltJ (Bi L' x (x+s))
theorem AqF.parts {L L':List EnJ} {s a k:Nat} (h:AqF L L' s a k):XD ltJ (Bi L' a (a+s))∧XD ltJ (Bi L' (a+s) (a+s+s)):=by
 have e:a=2*k*s:=by rw [h.at_,Nat.mul_left_comm,Nat.mul_assoc]
 refine ⟨h.left a (2*k) e (Nat.le_refl _),h.left (a+s) (2*k+1) ?_ (by omega)⟩
 rw [Nat.add_mul,Nat.one_mul,←e]
theorem AqF.before {s a k j:Nat} (ha:a=k*(2*s)) (hj:j<k):j*(2*s)+2*s≤a:=by
 have:(j+1)*(2*s)≤k*(2*s):=Nat.mul_le_mul_right _ hj
 rw [Nat.add_mul,Nat.one_mul] at this
 omega
theorem AqF.step {L L' L2:List EnJ} {s a k:Nat} (h:AqF L L' s a k) (hg:Sg ltJ L' L2 a (a+2*s)):AqF L L2 s (a+2*s) (k+1):=by
 refine ⟨by rw [Nat.add_mul,Nat.one_mul,←h.at_],hg.len.trans h.len,(hg.whole (by omega)).trans h.stb,fun j hj => ?_,fun x j hx hax => ?_⟩
 ·by_cases e:j=k
  ·subst e; rw [←h.at_]; exact hg.srt
  ·rw [hg.before (AqF.before h.at_ (by omega))]; exact h.done j (by omega)
 ·rw [hg.after hax]; exact h.left x j hx (by omega)
theorem AqF.start {L L':List EnJ} {s:Nat} (h:Bo1 L' s) (hl:L'.length=L.length) (hs:Qq ltJ L' L):AqF L L' s 0 0:=⟨by simp,hl,hs,fun j hj=>by omega,fun x j hx _=>by rw [hx]; exact h j⟩
theorem AqF.fin {L L' L2:List EnJ} {s a k n:Nat} (h:AqF L L' s a k) (hn:n=L.length) (han:a≤n) (hb:n<a+2*s) (hg:Sg ltJ L' L2 a n):Bo1 L2 (2*s):=fun j=>by
 rcases Nat.lt_trichotomy j k with hj | rfl | hj
 ·rw [hg.before (AqF.before h.at_ hj)]; exact h.done j hj
 ·rw [←h.at_,AjG (by rw [hg.len,h.len]; omega),hg.len,h.len,←hn]; exact hg.srt
 ·refine Aq8 ?_
  have:(k+1)*(2*s)≤j*(2*s):=Nat.mul_le_mul_right _ hj
  rw [Nat.add_mul,Nat.one_mul,←h.at_] at this
  rw [hg.len,h.len]; omega
theorem BjM {L:List EnJ} {N id ver:Nat} {H:List Ob} {K:TV→List Ob→Prop} (hN:N=L.length) (hl:N≤100000) (hr:RwJ H id ver L) (hK:K (.tup []) (H.set id (Adt ver (AlT ltJ L)))):Au Tryz.prog 71 [.os 24 id ver [] 0 N N,i64 (N:Int),Af1] H K:=by
 refine Io (by simp) ?_
 have hid:=hr.lt
 have hgg:∀ o:Ob,(H.set id o)[id]?=some o:=fun o=>List.getElem?_set_self hid
 have hss:∀ a b:Ob,(H.set id a).set id b=H.set id b:=fun a b=>List.set_set ..
 have hH0:=hr.self
 have fn0:DY Af1=false:=by simp [DY]
 -- the doubling
 have dbl:∀ L1:List EnJ,Bo1 L1 20→L1.length=L.length→Qq ltJ L1 L→vwp Tryz.prog Dq (Acy DX K) [(0,.os 24 id ver [] 0 N N),(1,i64 (N:Int)),(2,Af1),(6,i64 ((20:Nat):Int))] (H.set id (Adt ver L1)):=by
  intro L1 hb1 hl1 hs1
  simp -dsimp (disch:=first | assumption | omega | (simp only [Ac];try omega)) only [↓Ag,↓Fv]
  refine Cj (fun c e H'=>∃ (s:Nat) (L2:List EnJ),c=N - s∧20≤s∧s≤200000∧Bo1 L2 s∧L2.length=L.length∧Qq ltJ L2 L∧e=[(0,.os 24 id ver [] 0 N N),(1,i64 (N:Int)),(2,Af1),(6,i64 (s:Int))]∧H'=H.set id (Adt ver L2)) (N - 20) ?_ ?_
  ·exact ⟨20,L1,rfl,by omega,by omega,hb1,hl1,hs1,rfl,rfl⟩
  ·rintro c e H' ⟨s,L2,rfl,hs20,hs2,hb2,hl2,hst2,rfl,rfl⟩
   by_cases h:s<N
   case neg =>
    have hL2:L2=AlT ltJ L:=by
     refine BlK swJ ?_ hst2
     have:=hb2 0
     rw [Nat.zero_mul,Nat.zero_add,Bf5 (by omega)] at this
     exact this
    rw [hL2]
    simp -dsimp (disch:=first | assumption | omega | (simp only [Ac];try omega)) only [↓Ag,Ae,Ai,Ah,eq_self,Nat.reduceEqDiff,↓reduceIte,reduceCtorEq,↓CW,↓Hq]
    exact hK
   simp -dsimp (disch:=first | assumption | omega | (simp only [Ac];try omega)) only [↓Ag,Ae,Ai,Ah,eq_self,Nat.reduceEqDiff,↓reduceIte,reduceCtorEq,↓CW,↓FK,↓Fq]
   refine Cj (fun c e H'=>∃ (a k:Nat) (L3:List EnJ),c=N+1 - a∧a≤N∧AqF L L3 s a k∧e=[(0,.os 24 id ver [] 0 N N),(1,i64 (N:Int)),(2,Af1),(6,i64 (s:Int)),(7,i64 (a:Int)),(8,i64 ((a+2*s:Nat):Int))]∧H'=H.set id (Adt ver L3)) (N+1) ?_ ?_
   ·exact ⟨0,0,L2,rfl,by omega,AqF.start hb2 hl2 hst2,by rw [Nat.zero_add]; rfl,rfl⟩
   ·rintro c e H' ⟨a,k,L3,rfl,haN,hd,rfl,rfl⟩
    obtain ⟨d1,d2⟩:=hd.parts
    have hl3:=hd.len
    by_cases h3:a+2*s≤N
    ·simp -dsimp (disch:=first | assumption | omega | (simp only [Ac];try omega)) only [↓Ag,Ae,Ai,Ah,eq_self,Nat.reduceEqDiff,↓reduceIte,reduceCtorEq,↓Bv,↓FV]
     rw [show a+s+s=a+2*s by omega] at d2
     refine Js (BsJ _ (Nat.le_refl _) (by omega) (by omega) (by omega) h3 (by omega) (hgg _) d1 d2 fun L4 h4 => ?_)
     rw [hss]
     have hd2:=hd.step h4
     simp -dsimp (disch:=first | assumption | omega | (simp only [Ac];try omega)) only [↓Ag,Ae,Ai,Ah,eq_self,Nat.reduceEqDiff,↓reduceIte,reduceCtorEq]
     exact Aq (N+1 - (a+2*s)) (by omega) (by simp) ⟨a+2*s,k+1,L4,rfl,h3,hd2,rfl,rfl⟩
    ·by_cases h4:a+s<N
     ·simp -dsimp (disch:=first | assumption | omega | (simp only [Ac];try omega)) only [↓Ag,Ae,Ai,Ah,eq_self,Nat.reduceEqDiff,↓reduceIte,reduceCtorEq,↓Bv,↓CV]
      have d3:XD ltJ (Bi L3 (a+s) N):=by
       have:=AjG (L:=L3) (x:=a+s) (y:=a+s+s) (by omega)
       rw [hl3,←hN] at this
       rw [←this]; exact d2
      refine Js (BsJ _ (Nat.le_refl _) (by omega) (by omega) h4 (by omega) (by omega) (hgg _) d1 d3 fun L4 h5 => ?_)
      rw [hss]
      have hb4:=hd.fin hN haN (by omega) h5
      have hw4:=h5.whole haN
      simp -dsimp (disch:=first | assumption | omega | (simp only [Ac];try omega)) only [↓Ag,Ae,Ai,Ah,eq_self,Nat.reduceEqDiff,↓reduceIte,reduceCtorEq]
      exact Aq (N - s*2) (by omega) (by simp) ⟨s*2,L4,rfl,by omega,by omega,by rw [Nat.mul_comm]; exact hb4,by rw [h5.len,hl3],hw4.trans hd.stb,rfl,rfl⟩
     ·have h5:Sg ltJ L3 L3 a N:=Sg.none (by
       have:=AjG (L:=L3) (x:=a) (y:=a+s) (by omega)
       rw [hl3,←hN] at this
       rw [←this]; exact d1)
      have hb4:=hd.fin hN haN (by omega) h5
      simp -dsimp (disch:=first | assumption | omega | (simp only [Ac];try omega)) only [↓Ag,Ae,Ai,Ah,eq_self,Nat.reduceEqDiff,↓reduceIte,reduceCtorEq,↓Bv,↓CV]
      exact Aq (N - s*2) (by omega) (by simp) ⟨s*2,L3,rfl,by omega,by omega,by rw [Nat.mul_comm]; exact hb4,hl3,hd.stb,rfl,rfl⟩
 simp -dsimp (disch:=first | assumption | omega | (simp only [Ac];try omega)) only [↓Ag,Ae,Ai,Ah,eq_self,Nat.reduceEqDiff,↓reduceIte,Nat.reduceAdd,reduceCtorEq,↓Ib,↓EI,↓EM]
 refine Cj (fun c e H'=>∃ (k:Nat) (L1:List EnJ),c=N+1 - k*20∧k*20≤N∧L1.length=L.length∧Qq ltJ L1 L∧(∀ j,j<k→XD ltJ (Bi L1 (j*20) (j*20+20))) ∧
  e=[(0,.os 24 id ver [] 0 N N),(1,i64 (N:Int)),(2,Af1),(6,i64 ((20:Nat):Int)),(7,i64 ((k*20:Nat):Int)),(8,i64 ((k*20+20:Nat):Int))]∧H'=H.set id (Adt ver L1)) (N+1) ?_ ?_
 ·exact ⟨0,L,by omega,by omega,rfl,Qq.refl _,fun j hj=>by omega,rfl,hH0⟩
 ·rintro c e H' ⟨k,L1,rfl,hkN,hl1,hs1,hb1,rfl,rfl⟩
  by_cases h:k*20+20≤N
  ·simp -dsimp (disch:=first | assumption | omega | (simp only [Ac];try omega)) only [↓Ag,Ae,Ai,Ah,eq_self,Nat.reduceEqDiff,↓reduceIte,reduceCtorEq,↓CU]
   refine Js (Bsf (by omega) (by omega) h (by omega) (hgg _) fun L2 h2 => ?_)
   rw [hss]
   have hw2:=h2.whole (by omega)
   have e1:k*20+20=(k+1)*20:=by omega
   simp -dsimp (disch:=first | assumption | omega | (simp only [Ac];try omega)) only [↓Ag,Ae,Ai,Ah,eq_self,Nat.reduceEqDiff,↓reduceIte,reduceCtorEq]
   refine Aq (N+1 - (k+1)*20) (by omega) (by simp) ⟨k+1,L2,rfl,by omega,h2.len.trans hl1,hw2.trans hs1,fun j hj => ?_,by rw [←e1]; rfl,rfl⟩
   by_cases e:j=k
   ·subst e; exact h2.srt
   ·rw [h2.before (by omega)]; exact hb1 j (by omega)
  ·simp -dsimp (disch:=first | assumption | omega | (simp only [Ac];try omega)) only [↓Ag,Ae,Ai,Ah,eq_self,Nat.reduceEqDiff,↓reduceIte,reduceCtorEq,↓CU,↓FW]
   refine Js (Bsf (by omega) hkN (Nat.le_refl _) (by omega) (hgg _) fun L2 h2 => ?_)
   rw [hss]
   have hw2:=h2.whole hkN
   have hall:Bo1 L2 20:=fun j=>by
    rcases Nat.lt_trichotomy j k with hj | rfl | hj
    ·rw [h2.before (by omega)]; exact hb1 j hj
    ·rw [AjG (by rw [h2.len,hl1]; omega),h2.len,hl1,←hN]; exact h2.srt
    ·exact Aq8 (by rw [h2.len,hl1]; omega)
   have:=dbl L2 hall (h2.len.trans hl1) (hw2.trans hs1)
   simp -dsimp (disch:=first | assumption | omega | (simp only [Ac];try omega)) only [↓Ag,Ae,Ai,Ah,eq_self,Nat.reduceEqDiff,↓reduceIte,reduceCtorEq]
   exact this
theorem Aqb {L:List EnJ} {N id ver:Nat} {H:List Ob} {K:TV→List Ob→Prop} (hN:N=L.length) (hl:N≤100000) (hr:RwJ H id ver L) (hK:K (.tup []) (H.set id (Adt ver (AlT ltJ L)))):Au Tryz.prog 43 [.os 24 id ver [] 0 N N,Af1] H K:=by
 refine Dx (by simp) ?_
 have fn0:DY Af1=false:=by simp [DY]
 simp -dsimp (disch:=first | assumption | omega | (simp only [Ac];try omega)) only [↓Ag,Ae,Ai,Ah,eq_self,Nat.reduceEqDiff,↓reduceIte,Nat.reduceAdd,reduceCtorEq,↓AU]
 refine Js (BjM hN hl hr ?_)
 simp -dsimp (disch:=first | assumption | omega | (simp only [Ac];try omega)) only [↓Ag,Ae,Ai,Ah,Nat.reduceAdd,↓AU]
 exact hK
end
section
open Go.RowKit
variable [AL]
theorem Bmd {l:List EnJ} (hlen:l.length≤100000) {H:List Ob} {K:TV→List Ob→Prop} (h0:l=[]→K (.val (.slice none 0 0)) H) (h1:K (.os 24 H.length 1 [] 0 l.length l.length) (H++[.obj 1 (.arr l.length 24 (l.map enJ))])) :
  Au Tryz.prog 42 [.sl 24 (l.map enJ)] H K:=by
 refine NS (by simp) ?_
 by_cases hn:l=[]
 ·subst hn
  simp -dsimp (disch:=first | assumption | omega | (simp only [Ac];try omega)) only [↓Ag,Ae,Ai,Ah,eq_self,↓reduceIte,reduceCtorEq,↓BL]
  refine Apw ?_ ?_
  ·simp -dsimp (disch:=first | assumption | omega | (simp only [Ac];try omega)) only [↓Ag,Ae,Ai,Ah,eq_self,↓reduceIte,reduceCtorEq,↓BL]
   exact h0 rfl
  ·simp -dsimp (disch:=first | assumption | omega | (simp only [Ac];try omega)) only [↓Ag,Ae,Ai,Ah,eq_self,Nat.reduceEqDiff,Nat.reduceMul,↓reduceIte,reduceCtorEq,↓BL]
   simpa using h1
 ·have hn0:l.length≠0:=fun e=>hn (List.length_eq_zero_iff.1 e)
  simp -dsimp (disch:=first | assumption | omega | (simp only [Ac];try omega)) only [↓Ag,Ae,Ai,Ah,eq_self,Nat.reduceEqDiff,↓reduceIte,reduceCtorEq,↓BL]
  simpa using h1
theorem A3h {H:List Ob} {K:TV→List Ob→Prop} (hK:K (.tup []) H):Au Tryz.prog 43 [.val (.slice none 0 0),Af1] H K:=by
 refine Dx (by simp) ?_
 have fn0:DY Af1=false:=by simp [DY]
 simp -dsimp (disch:=first | assumption | omega | (simp only [Ac];try omega)) only [↓Ag,Ae,Ai,Ah,eq_self,Nat.reduceEqDiff,↓reduceIte,Nat.reduceAdd,reduceCtorEq,↓AU]
 refine Io (by simp) ?_
 simp -dsimp (disch:=first | assumption | omega | (simp only [Ac];try omega)) only [↓Ag,Ae,Ai,Ah,eq_self,Nat.reduceEqDiff,↓reduceIte,Nat.reduceAdd,reduceCtorEq,↓Cf]
 refine Cj (fun c e H'=>c=0∧e=[(0,.val (.slice none 0 0)),(1,i64 ((0:Nat):Int)),(2,Af1),(6,i64 ((20:Nat):Int)),(7,i64 ((0:Nat):Int)),(8,i64 ((20:Nat):Int))]∧H'=H) 0 ?_ ?_
 ·exact ⟨rfl,rfl,rfl⟩
 ·rintro c e H' ⟨rfl,rfl,rfl⟩
  simp -dsimp (disch:=first | assumption | omega | (simp only [Ac];try omega)) only [↓Ag,Ae,Ai,Ah,eq_self,Nat.reduceEqDiff,↓reduceIte,reduceCtorEq,Nat.reduceLeDiff,↓Cf]
  refine Ef (by simp) ?_
  simp -dsimp (disch:=first | assumption | omega | (simp only [Ac];try omega)) only [↓Ag,Ae,Ai,Ah,eq_self,Nat.reduceEqDiff,↓reduceIte,Nat.reduceAdd,reduceCtorEq,↓Aj]
  refine Cj (fun c e H2=>c=0∧e=[(0,.val (.slice none 0 0)),(1,i64 ((0:Nat):Int)),(2,i64 ((0:Nat):Int)),(3,Af1),(8,i64 ((1:Nat):Int))]∧H2=H') 0 ?_ ?_
  ·exact ⟨rfl,rfl,rfl⟩
  ·rintro c e H2 ⟨rfl,rfl,rfl⟩
   simp -dsimp (disch:=first | assumption | omega | (simp only [Ac];try omega)) only [↓Ag,Ae,Ai,Ah,eq_self,Nat.reduceLT,Nat.reduceEqDiff,↓reduceIte,reduceCtorEq,↓Aj,↓Cf]
   refine Cj (fun c e H3=>c=0∧e=[(0,.val (.slice none 0 0)),(1,i64 ((0:Nat):Int)),(2,Af1),(6,i64 ((20:Nat):Int))]∧H3=H2) 0 ?_ ?_
   ·exact ⟨rfl,rfl,rfl⟩
   ·rintro c e H3 ⟨rfl,rfl,rfl⟩
    simp -dsimp (disch:=first | assumption | omega | (simp only [Ac];try omega)) only [↓Ag,Ae,Ai,Ah,eq_self,Nat.reduceLT,Nat.reduceEqDiff,↓reduceIte,reduceCtorEq,↓Cf,↓AU]
    exact hK
def SlJ (l:List EnJ) (x:TV):Prop:=x = .sl 24 (l.map enJ)∨(l=[]∧x = .val (.slice none 0 0))
theorem Blp (l:List EnJ) (hl:l.length≤100000):P8 Tryz.prog 23 [.sl 24 (l.map enJ)] (SlJ (AlT ltJ l)):=by
 refine Au.toFreshV (Akq (by simp) ?_)
 have hsc:=Af7 (AlT ltJ l)
 have hsl:(AlT ltJ l).length=l.length:=(Agz l).length_eq
 simp -dsimp (disch:=first | assumption | omega | (simp only [Ac];try omega)) only [↓Ag,Ae,Ai,Ah,eq_self,↓reduceIte,reduceCtorEq,↓Xv]
 refine Js (Bmd hl (fun h0 => ?_) ?_)
 ·subst h0
  simp -dsimp (disch:=first | assumption | omega | (simp only [Ac];try omega)) only [↓Ag,Ae,Ai,Ah,eq_self,↓reduceIte]
  refine Js (A3h ?_)
  simp -dsimp (disch:=first | assumption | omega | (simp only [Ac];try omega)) only [↓Ag,Ae,Ai,Ah,eq_self,↓reduceIte,reduceCtorEq,↓Xv]
  exact .inr ⟨rfl,rfl⟩
 ·simp -dsimp (disch:=first | assumption | omega | (simp only [Ac];try omega)) only [↓Ag,Ae,Ai,Ah,eq_self,↓reduceIte]
  refine Js (Aqb rfl hl (L:=l) rfl ?_)
  simp -dsimp (disch:=first | assumption | omega | (simp only [Ac];try omega)) only [↓Ag,Ae,Ai,Ah,eq_self,↓reduceIte,reduceCtorEq,↓Xv,hsc]
  exact .inl rfl
end
section
variable [AL]
set_option maxRecDepth 100000
end
section
open Go.RowKit
variable [AL]
end
section
open Go.RowKit
variable [AL]
end
section
open Go.RowKit
variable [AL]
theorem Aga (e:EnJ):U0 [(0,0)] (enJ e)=some (ts e.path):=by rw [YR]; simp [U0,Dw]
theorem AlC (e:EnJ):U0 [(4,23)] (enJ e)=some (i64 e.stage):=by rw [YR]; simp [U0,Dw,AC]
end
section
open Go.RowKit
variable [AL]
end
section
open Go.RowKit
variable [AL]
theorem Ap0 {α:Type} {lt:α→α→Bool} {e:α}:∀ {l:List α} {k:Nat},k≤l.length→(∀ (j:Nat) y,j<k→l[j]?=some y→lt e y=false)→(∀ y,l[k]?=some y→lt e y=true)→l.take k++[e]++l.drop k=Aof lt e l
 | [],0,_,_,_=>rfl
 | [],k+1,h,_,_=>by simp at h
 | d::l,0,_,_,h=>by
  have:=h d rfl
  rw [Aof,if_pos this]; rfl
 | d::l,k+1,hk,h1,h2=>by
  have hd:=h1 0 d (by omega) rfl
  rw [Aof,if_neg (by rw [hd]; decide)]
  have ih:=Ap0 (l:=l) (k:=k) (by simpa using hk) (fun j y hj hy=>h1 (j+1) y (by omega) (by simpa using hy)) (fun y hy=>h2 y (by simpa using hy))
  rw [←ih]; simp
theorem BiP (l:List EnJ) (x:EnJ):AlT ltJ (l++[x])=Aof ltJ x (AlT ltJ l):=by unfold AlT; rw [List.foldl_append]; rfl
theorem Bix {α:Type} {z a:α}:(List.replicate 1 z).set 0 a=[a]:=by simp [List.replicate]
theorem ArV {l out:List EnJ} {i at' k v cp:Nat} {x:EnJ} {H:List Ob} {Q:VEx→Env→List Ob→Prop} (hg:l[i]?=some x) (hol:out.length≤10000) (hil:i≤10000) (hat:at'≤out.length) (hk:H[k]?=some (.obj v (.arr out.length 24 (out.map enJ)))) (hcp:out.length≤cp)
  (hQ:∀ k' v' H',H'[k']?=some (.obj v' (.arr (out.take at'++[x]++out.drop at').length 24 ((out.take at'++[x]++out.drop at').map enJ)))→H.length≤H'.length→Q .nor [(0,.sl 24 (l.map enJ)),(3,.os 24 k' v' [] 0 (out.take at'++[x]++out.drop at').length (out.take at'++[x]++out.drop at').length),(4,i64 (i:Int))] H') :
  vwp Tryz.prog NG Q [(0,.sl 24 (l.map enJ)),(3,.os 24 k v [] 0 out.length cp),(4,i64 (i:Int)),(5,i64 (at':Int))] H:=by
 have hkl:=(List.getElem?_eq_some_iff.1 hk).1
 have htl:((out.map enJ).take at').length=at':=by simp [hat]
 have hdl:((out.map enJ).drop at').length=out.length - at':=by simp
 have hq1:List.take at' (List.take at' out)=List.take at' out:=by rw [List.take_take,Nat.min_self]
 have hq2:(List.take at' out).length=at':=by simp [hat]
 have hq3:∀ y:TV,List.take (at'+1) ((List.take at' out).map enJ++[y])=(List.take at' out).map enJ++[y]:=fun y=>List.take_of_length_le (by simp [hat])
 have hq4:(out.drop at').length=out.length - at':=by simp
 simp -dsimp (disch:=first | assumption | omega | (simp only [Ac];try omega)) only [↓Ag,Ae,Ai,Ah,eq_self,Nat.reduceEqDiff,↓reduceIte,Nat.reduceAdd,reduceCtorEq,Nat.reduceLeDiff,↓Ahl,↓Agf,↓Ahx,hg,hk,Pn,UR,Ahr,UX,Bix,hq2,hq3,hq4]
 have hlen':(out.take at'++[x]++out.drop at').length=at'+1+(out.length - at'):=by
  rw [List.length_append,List.length_append,hq2,hq4,List.length_singleton]
 have:=hQ H.length 3 (H++[Ob.obj 3 (.arr (at'+1+(out.length - at')) 24 (List.map enJ (List.take at' out)++[enJ x]++List.map enJ (List.drop at' out)))]++[Ob.obj 0 (TV.arr 1 24 [enJ x])])
  (by rw [List.append_assoc,Bi7 rfl,hlen']; simp) (by simp)
 rw [hlen'] at this
 exact this
theorem Bfo (l:List EnJ) (hlen:l.length≤5000):P8 Tryz.prog 18 [.sl 24 (l.map enJ)] (fun r=>r = .sl 24 ((AlT ltJ l).map enJ)):=by
 refine Au.toFreshV (Alp (by simp) ?_)
 simp -dsimp (disch:=first | assumption | omega | (simp only [Ac];try omega)) only [↓Ag,Ae,Ai,Ah,eq_self,Nat.reduceEqDiff,↓reduceIte,reduceCtorEq,↓AjW,↓Ae5,↓AeN,↓AgM]
 refine Cj (fun q e H=>∃ (i k v cp:Nat) (out:List EnJ),q=l.length - i∧i≤l.length∧out=AlT ltJ (l.take i)∧e=[(0,.sl 24 (l.map enJ)),(3,.os 24 k v [] 0 out.length cp),(4,i64 (i:Int))]∧(H[k]?=some (.obj v (.arr out.length 24 (out.map enJ)))∧out.length≤cp)) l.length ?_ ?_
 ·exact ⟨0,0,0,0,[],by simp,by simp,by rw [List.take_zero]; rfl,by simp [forget,get],rfl,by simp⟩
 ·rintro q e H ⟨i,k,v,cp,out,rfl,hi,hsd,rfl,hk,hcp⟩
  have hkl:=(List.getElem?_eq_some_iff.1 hk).1
  have hol:out.length=i:=by rw [hsd,(Agz _).length_eq]; simp [hi]
  by_cases h:i<l.length
  ·obtain ⟨x,hg⟩:∃ x,l[i]?=some x:=⟨_,List.getElem?_eq_getElem h⟩
   have hsucc:l.take (i+1)=l.take i++[x]:=by
    obtain ⟨_,rfl⟩:=List.getElem?_eq_some_iff.1 hg
    exact List.take_succ_eq_append_getElem h
   have nx:Aof ltJ x out=AlT ltJ (l.take (i+1)):=by rw [hsucc,BiP,hsd]
   have hxJ:=YR x
   have hirr:=Gf x.path
   simp -dsimp (disch:=first | assumption | omega | (simp only [Ac];try omega)) only [↓Ag,Ae,Ai,Ah,eq_self,Nat.reduceEqDiff,↓reduceIte,reduceCtorEq,↓WB,↓Ahg,↓Agp]
   refine Cj (fun q e H'=>∃ at':Nat,q=out.length - at'∧at'≤out.length∧(∀ (j:Nat) y,j<at'→out[j]?=some y→ltJ x y=false)∧e=[(0,.sl 24 (l.map enJ)),(3,.os 24 k v [] 0 out.length cp),(4,i64 (i:Int)),(5,i64 (at':Int))]∧H'=H) out.length ?_ ?_
   ·exact ⟨0,by simp,by simp,by simp,by simp [forget,get],rfl⟩
   ·rintro q e H' ⟨at',rfl,hat,hlt,rfl,hHH⟩
    subst H'
    have stop:(∀ y,out[at']?=some y→ltJ x y=true)→vwp Tryz.prog NG (Blk 1 (Thn Tryz.prog TF (Rnd 1 [0,3,4] (Blk 0 (Thn Tryz.prog Sr (Acy Aab fun x H'=>CQ (frs H' x) (fun r=>r = .sl 24 ((AlT ltJ l).map enJ)))))
      (fun q e H=>∃ (i k v cp:Nat) (out:List EnJ),q=l.length - i∧i≤l.length∧out=AlT ltJ (l.take i)∧e=[(0,.sl 24 (l.map enJ)),(3,.os 24 k v [] 0 out.length cp),(4,i64 (i:Int))]∧(H[k]?=some (.obj v (.arr out.length 24 (out.map enJ)))∧out.length≤cp)) (l.length - i)))) [(0,.sl 24 (l.map enJ)),(3,.os 24 k v [] 0 out.length cp),(4,i64 (i:Int)),(5,i64 (at':Int))] H:=by
     intro hstop
     refine ArV hg (by omega) (by omega) hat hk hcp fun k' v' H2 hk2 hl2 => ?_
     rw [Ap0 hat hlt hstop,nx] at hk2
     rw [Ap0 hat hlt hstop,nx]
     simp -dsimp (disch:=first | assumption | omega | (simp only [Ac];try omega)) only [↓Ag,Ae,Ai,Ah,eq_self,Nat.reduceEqDiff,↓reduceIte,reduceCtorEq,↓Ahj]
     exact Aq (l.length - (i+1)) (by omega) (by omega) ⟨i+1,k',v',_,_,rfl,by omega,rfl,by simp [forget,get],hk2,Nat.le_refl _⟩
    by_cases ha:at'<out.length
    case neg =>
     have hs:=stop fun y hy=>by have:=(List.getElem?_eq_some_iff.1 hy).1; omega
     simp -dsimp (disch:=first | assumption | omega | (simp only [Ac];try omega)) only [↓Ag,Ae,Ai,Ah,eq_self,Nat.reduceEqDiff,↓reduceIte,reduceCtorEq,↓Ik]
     exact hs
    obtain ⟨y,hga⟩:∃ y,out[at']?=some y:=⟨_,List.getElem?_eq_getElem ha⟩
    have nxt:ltJ x y=false→∀ (j:Nat) z,j<at'+1→out[j]?=some z→ltJ x z=false:=fun h j z hj hz=>by
     by_cases e:j=at'
     ·subst e; rw [hga] at hz; cases hz; exact h
     ·exact hlt j z (by omega) hz
    by_cases c1:ltB y.path x.path
    ·have hn:=nxt (AqG.2 ⟨fun k=>Gf _ (Qj c1 k),fun e=>by rw [e] at c1; exact absurd c1 (Gf _)⟩)
     simp -dsimp (disch:=first | assumption | omega | (simp only [Ac];try omega)) only [↓Ag,Ae,Ai,Ah,eq_self,Nat.reduceEqDiff,↓reduceIte,reduceCtorEq,↓Ik,hg,hk,hga,hxJ,Aga,Akm,c1]
     exact Aq (out.length - (at'+1)) (by omega) (Nat.le_refl _) ⟨at'+1,rfl,by omega,hn,by simp [forget,get],rfl⟩
    ·by_cases c2:y.path=x.path
     ·by_cases c3:y.stage≤x.stage
      ·have hn:=nxt (AqG.2 ⟨fun k=>by rw [c2] at k; exact Gf _ k,fun _=>by omega⟩)
       simp -dsimp (disch:=first | assumption | omega | (simp only [Ac];try omega)) only [↓Ag,Ae,Ai,Ah,eq_self,Nat.reduceEqDiff,↓reduceIte,Nat.reduceAdd,reduceCtorEq,↓Ik,hg,hk,hga,hxJ,Aga,AlC,Akm,c2,c3,hirr]
       exact Aq (out.length - (at'+1)) (by omega) (Nat.le_refl _) ⟨at'+1,rfl,by omega,hn,by simp [forget,get],rfl⟩
      ·have hs:=stop fun z hz=>by rw [hga] at hz; cases hz; exact AjP.2 (.inr ⟨c2.symm,by omega⟩)
       simp -dsimp (disch:=first | assumption | omega | (simp only [Ac];try omega)) only [↓Ag,Ae,Ai,Ah,eq_self,Nat.reduceEqDiff,↓reduceIte,Nat.reduceAdd,reduceCtorEq,↓Ik,hg,hk,hga,hxJ,Aga,AlC,Akm,c2,c3,hirr]
       exact hs
     ·have hs:=stop fun z hz=>by
       rw [hga] at hz; cases hz
       refine AjP.2 (.inl ?_)
       by_cases k:ltB x.path y.path
       ·exact k
       ·exact absurd (Afp c1 k) c2
      simp -dsimp (disch:=first | assumption | omega | (simp only [Ac];try omega)) only [↓Ag,Ae,Ai,Ah,eq_self,Nat.reduceEqDiff,↓reduceIte,reduceCtorEq,↓Ik,hg,hk,hga,hxJ,Aga,Akm,c1,c2]
      exact hs
  ·have hi2:i=l.length:=by omega
   subst hi2
   rw [List.take_length] at hsd
   rw [←hsd]
   have hsc:=Af7 out
   simp -dsimp (disch:=first | assumption | omega | (simp only [Ac];try omega)) only [↓Ag,Ae,Ai,Ah,eq_self,Nat.reduceEqDiff,↓reduceIte,reduceCtorEq,↓WB,↓Afi,↓Aj4,hk,hsc]
end
section
open Go.RowKit Kit
variable [AL] [Ar] [AB]
noncomputable def AkR (objs:List ObD) (root:List UInt8):Except Nat (List EnJ):=match LD (JR objs) 102 root [] [] with
 | .error c => .error c
 | .ok o => .ok (AlT ltJ o)
def Bs0 (res:Except Nat (List EnJ)) (x:TV):Prop:=match res with
 | .error c=>(c=50→∃ j,j.length=20∧x = .tup [.val (.slice none 0 0),ide (.fp (.agg [X0 j,i64 ((50:Nat):Int)]))])∧(c≠50→x = .tup [.val (.slice none 0 0),eno (c:Int)])
 | .ok o=>∃ y,SlJ o y∧x = .tup [y,.val .nilIface]
def BpI (res:Except Nat (List EnJ)) (x:TV):Prop:=match res with
 | .error c=>x = .tup [.val (.slice none 0 0),i64 (c:Int)]
 | .ok o=>x = .tup [.sl 24 (o.map enJ),i64 ((0:Nat):Int)]
theorem Bn6 {objs:List ObD} (hol:objs.length≤1000000) (hob:∀ o∈objs,o.data.length≤1000000) (root:List UInt8) (hr:root.length=20) :
  BD Tryz.prog 9 [X0 root,.sl 2 (objs.map obT)] (BpI (AkR objs root)):=by
 refine Au.toPureV (Anr (by simp) ?_)
 have hI:(root.map by8).length=20:=by rw [List.length_map]; exact hr
 have hw:=BnF hol hob 102 root [] [] (.val (.slice none 0 0)) [.obj 0 (X0 root)] (by simp) (by simp) hr ⟨by simp,by simp⟩ (.inl ⟨rfl,rfl⟩)
 simp -dsimp (disch:=first | assumption | omega | (simp only [Ac];try omega)) only [↓Ag,Ae,Ai,Ah,eq_self,Nat.reduceEqDiff,↓reduceIte,Nat.reduceAdd,reduceCtorEq,↓Amx,↓Ajv]
 refine Js (hw.mono fun x H' hx => ?_)
 obtain ⟨_,hx⟩:=hx
 unfold AkR
 cases hres:LD (JR objs) 102 root [] [] with
 | error c =>
  rw [hres] at hx
  have hx3:x = .tup [.val (.slice none 0 0),i64 (c:Int)]:=hx
  subst hx3
  have hc0:c≠0:=by rcases Ahh hres with h | h | h | h<;>omega
  simp -dsimp (disch:=first | assumption | omega | (simp only [Ac];try omega)) only [↓Ag,Ae,Ai,Ah,eq_self,Nat.reduceEqDiff,↓reduceIte,hc0,↓Ahm]
  rfl
 | ok o =>
  rw [hres] at hx
  obtain ⟨k,v,cp,rfl,hk⟩:=hx
  have ho:=Adn Ab7 (out:=[]) ⟨by simp,by simp⟩ hres
  have ho1:=ho.1
  have htk:(o.map enJ).take o.length=o.map enJ:=List.take_of_length_le (by simp)
  simp -dsimp (disch:=first | assumption | omega | (simp only [Ac];try omega)) only [↓Ag,Ae,Ai,Ah,eq_self,Nat.reduceEqDiff,↓reduceIte]
  refine (Bfo o (by omega)).lends (args':=[.sl 24 (o.map enJ)]) (by simp -dsimp (disch:=first | assumption | omega | (simp only [Ac];try omega)) only [Ai,Ah,eq_self,↓reduceIte,hk,htk]) fun r hr => ?_
  subst hr
  simp -dsimp (disch:=first | assumption | omega | (simp only [Ac];try omega)) only [↓Ag,Ae,Ai,Ah,eq_self,Nat.reduceEqDiff,↓reduceIte,↓Ahm]
  rfl
variable [Be] [BB]
theorem BrD {objs:List ObD} (hol:objs.length≤1000000) (hob:∀ o∈objs,o.data.length≤1000000) (hkr:∀ o∈objs,-9223372036854775808≤o.kind∧o.kind≤9223372036854775807) (hnc:AcS objs) (root:List UInt8) (hr:root.length=20) :
  BD Tryz.prog 8 [X0 root,.sl 2 (objs.map obT)] (Bs0 (AkR objs root)):=by
 refine Au.toPureV (Amh (by simp) ?_)
 have hI:(root.map by8).length=20:=by rw [List.length_map]; exact hr
 simp -dsimp (disch:=first | assumption | omega | (simp only [Ac];try omega)) only [↓Ag,Ae,Ai,Ah,eq_self,Nat.reduceEqDiff,↓reduceIte,Nat.reduceAdd,reduceCtorEq,↓Alo,↓Ahd,↓AgK,↓AhU]
 refine Cj (fun q e H=>∃ (j:Nat) (es:List (List UInt8×TV)),q=objs.length - j∧j≤objs.length∧AmA es (JR (objs.take j))∧3≤H.length∧H[0]?=some (.obj 0 (X0 root))∧H[1]?=some (.mpo (.arr 20) es)∧H[2]?=some (.obj 0 (.agg [.mp 1 0,.val (.slice none 0 0)])) ∧
  e=[(2,.op 0 0 []),(6,.op 2 0 []),(17,.sl 2 (objs.map obT)),(18,i64 (objs.length:Int)),(19,i64 (j:Int))]) objs.length ?_ ?_
 ·exact ⟨0,[],rfl,Nat.zero_le _,AmA.nil,by simp,rfl,rfl,rfl,rfl⟩
 rintro q e H ⟨j,es,rfl,hj,hM,hHl,g0,g1,g2,rfl⟩
 have A0:∀ T:List Ob,(H++T)[0]?=some (.obj 0 (X0 root)):=fun T=>by rw [List.getElem?_append_left (by omega)]; exact g0
 have A1:∀ T:List Ob,(H++T)[1]?=some (.mpo (.arr 20) es):=fun T=>by rw [List.getElem?_append_left (by omega)]; exact g1
 have A2:∀ T:List Ob,(H++T)[2]?=some (.obj 0 (.agg [.mp 1 0,.val (.slice none 0 0)])):=fun T=>by rw [List.getElem?_append_left (by omega)]; exact g2
 have B0:∀ T T2:List Ob,(H++T++T2)[0]?=some (.obj 0 (X0 root)):=fun T T2=>by rw [List.append_assoc]; exact A0 _
 have B1:∀ T T2:List Ob,(H++T++T2)[1]?=some (.mpo (.arr 20) es):=fun T T2=>by rw [List.append_assoc]; exact A1 _
 have B2:∀ T T2:List Ob,(H++T++T2)[2]?=some (.obj 0 (.agg [.mp 1 0,.val (.slice none 0 0)])):=fun T T2=>by rw [List.append_assoc]; exact A2 _
 by_cases hjl:j<objs.length
 ·have hg:objs[j]?=some objs[j]:=List.getElem?_eq_getElem hjl
  have hod:=hob _ (List.mem_of_getElem? hg)
  have hkd:=hkr _ (List.mem_of_getElem? hg)
  have htk:=List.take_succ_eq_append_getElem hjl
  have hncj:=hnc.take (j+1)
  generalize objs[j]=ob at *
  rw [htk] at hncj
  have hM':AmA (AjZ es ob) (JR (objs.take (j+1))):=by rw [htk]; exact hM.step hncj
  have hid:=idF ob.kind hkd.1 hkd.2 ob.data hod
  have gE:∀ T,(H++[Ob.obj 0 (obT ob)]++T)[H.length]?=some (.obj 0 (obT ob)):=fun T=>by simp
  have gE0:(H++[Ob.obj 0 (obT ob)])[H.length]?=some (.obj 0 (obT ob)):=by simp
  simp -dsimp (disch:=first | assumption | omega | (simp only [Ac];try omega)) only [↓Ag,Ae,Ai,Ah,eq_self,Nat.reduceEqDiff,↓reduceIte,Nat.reduceAdd,hg,gE0,↓ZU,↓Ze,↓Ah6,↓AhI]
  refine hid.pure.calls rfl fun r hr => ?_
  cases he:Af0 ob.kind ob.data with
  | error c =>
   rw [hr.2 c he]
   have hst:AjZ es ob=es:=by unfold AjZ Xy; rw [he]
   rw [hst] at hM'
   have hz20:((List.replicate 20 (0:UInt8)).map by8).length=20:=by simp
   simp -dsimp (disch:=first | assumption | omega | (simp only [Ac];try omega)) only [↓Ag,Ae,Ai,Ah,eq_self,Nat.reduceEqDiff,↓reduceIte,Nat.reduceAdd,↓RD]
   exact Aq (objs.length - (j+1)) (by omega) (by simp; omega) ⟨j+1,es,rfl,by omega,hM',by simp; omega,B0 _ _,B1 _ _,B2 _ _,rfl⟩
  | ok b =>
  rw [hr.1 b he]
  have hsl:((sha b).map by8).length=20:=by rw [List.length_map]; exact JC b
  have hidb:Xy ob=some (sha b):=by unfold Xy; rw [he]
  by_cases hk2:ob.kind=2
  case neg =>
   have hst:AjZ es ob=es:=by unfold AjZ; rw [hidb]; exact if_neg hk2
   rw [hst] at hM'
   simp -dsimp (disch:=first | assumption | omega | (simp only [Ac];try omega)) only [↓Ag,Ae,Ai,Ah,eq_self,Nat.reduceEqDiff,↓reduceIte,Nat.reduceAdd,gE,↓RD]
   exact Aq (objs.length - (j+1)) (by omega) (by simp; omega) ⟨j+1,es,rfl,by omega,hM',by simp; omega,B0 _ _,B1 _ _,B2 _ _,rfl⟩
  simp -dsimp (disch:=first | assumption | omega | (simp only [Ac];try omega)) only [↓Ag,Ae,Ai,Ah,eq_self,Nat.reduceEqDiff,↓reduceIte,Nat.reduceAdd,gE,hk2,↓RD,↓AhQ]
  have hread:=A3x ob.data hod
  refine Js (hread.pure.calls rfl fun r2 hr2 => ?_)
  cases ht:rdT ob.data with
  | none =>
   rw [hr2.2 (Aq2 ht)]
   have hst:AjZ es ob=es:=by unfold AjZ; rw [hidb,ht]; exact if_pos hk2
   rw [hst] at hM'
   simp -dsimp (disch:=first | assumption | omega | (simp only [Ac];try omega)) only [↓Ag,Ae,Ai,Ah,eq_self,Nat.reduceEqDiff,↓reduceIte,Nat.reduceAdd]
   exact Aq (objs.length - (j+1)) (by omega) (by simp; omega) ⟨j+1,es,rfl,by omega,hM',by simp; omega,B0 _ _,B1 _ _,B2 _ _,rfl⟩
  | some t =>
  have hr2':r2 = .tup [.sl 22 (t.map enT),.val .nilIface]:=hr2.1 t (Al9 ht)
  rw [hr2']
  have hst:AjZ es ob=AbS (sha b) (.sl 22 (t.map enT)) es:=by unfold AjZ; rw [hidb,ht]; exact if_pos hk2
  rw [hst] at hM'
  have gI:∀ T,(H++[Ob.obj 0 (obT ob)]++Ob.obj 0 (X0 (sha b))::T)[H.length+1]?=some (.obj 0 (X0 (sha b))):=fun T=>by rw [List.getElem?_append_right (by simp)]; simp
  simp -dsimp (disch:=first | assumption | omega | (simp only [Ac];try omega)) only [↓Ag,Ae,Ai,Ah,eq_self,Nat.reduceEqDiff,↓reduceIte,Nat.reduceAdd,↓AhS,B2,B1,gI]
  refine Aq (objs.length - (j+1)) (by omega) (by simp; omega) ⟨j+1,_,rfl,by omega,hM',by simp; omega,?_,?_,?_,rfl⟩
  ·rw [List.append_assoc,List.getElem?_append_left (by simp; omega),List.getElem?_set_ne (by omega)]; exact g0
  ·rw [List.append_assoc,List.getElem?_append_left (by simp; omega),List.getElem?_set_self (by omega)]
  ·rw [List.append_assoc,List.getElem?_append_left (by simp; omega),List.getElem?_set_ne (by omega)]; exact g2
 ·have hj2:j=objs.length:=by omega
  rw [hj2,List.take_length] at hM
  have hw:=Bqf Ab7 (wi:=2) (mi:=1) hM 102 root [] [] H (by simp) (by simp) hr ⟨by simp,by simp⟩ ⟨g1,.inl ⟨rfl,g2⟩⟩
  simp -dsimp (disch:=first | assumption | omega | (simp only [Ac];try omega)) only [↓Ag,Ae,Ai,Ah,eq_self,Nat.reduceEqDiff,↓reduceIte,g0,↓ZU,↓Ze,↓AhR]
  refine Js (hw.mono fun x H' hx => ?_)
  obtain ⟨_,hx⟩:=hx
  unfold AkR
  cases hres:LD (JR objs) 102 root [] [] with
  | error c =>
   rw [hres] at hx
   by_cases hc:c=50
   ·obtain ⟨k',j',hj',rfl,hk'⟩:=hx.1 hc
    simp -dsimp (disch:=first | assumption | omega | (simp only [Ac];try omega)) only [↓Ag,Ae,Ai,Ah,eq_self,Nat.reduceEqDiff,↓reduceIte,hk',↓Sz]
    exact ⟨fun _=>⟨j',hj',rfl⟩,fun h=>absurd hc h⟩
   ·have hx3:=hx.2 hc
    subst hx3
    simp -dsimp (disch:=first | assumption | omega | (simp only [Ac];try omega)) only [↓Ag,Ae,Ai,Ah,eq_self,Nat.reduceEqDiff,↓reduceIte,↓Sz]
    exact ⟨fun h=>absurd h hc,fun _=>rfl⟩
  | ok o =>
   rw [hres] at hx
   obtain ⟨rfl,w1,ri,v,cp,w2,w3⟩:=hx
   have ho:=Adn Ab7 (out:=[]) ⟨by simp,by simp⟩ hres
   have ho1:=ho.1
   have htk:(o.map enJ).take o.length=o.map enJ:=List.take_of_length_le (by simp)
   simp -dsimp (disch:=first | assumption | omega | (simp only [Ac];try omega)) only [↓Ag,Ae,Ai,Ah,eq_self,Nat.reduceEqDiff,↓reduceIte,Nat.reduceAdd,w2]
   refine Js ((Blp o (by omega)).lends (args':=[.sl 24 (o.map enJ)]) (by simp -dsimp (disch:=first | assumption | omega | (simp only [Ac];try omega)) only [Ai,Ah,eq_self,↓reduceIte,w3,htk]) fun r hr => ?_)
   rcases hr with rfl | ⟨h0,rfl⟩
   ·simp -dsimp (disch:=first | assumption | omega | (simp only [Ac];try omega)) only [↓Ag,Ae,Ai,Ah,eq_self,Nat.reduceEqDiff,↓reduceIte,↓Sz]
    exact ⟨_,.inl rfl,rfl⟩
   ·simp -dsimp (disch:=first | assumption | omega | (simp only [Ac];try omega)) only [↓Ag,Ae,Ai,Ah,eq_self,Nat.reduceEqDiff,↓reduceIte,↓Sz]
    exact ⟨_,.inr ⟨h0,rfl⟩,rfl⟩
theorem Bro {objs:List ObD} (hol:objs.length≤1000000) (hob:∀ o∈objs,o.data.length≤1000000) (hkr:∀ o∈objs,-9223372036854775808≤o.kind∧o.kind≤9223372036854775807) (hnc:AcS objs) (root:List UInt8) (hr:root.length=20) :
  BD Tryz.prog 8 [X0 root,.sl 2 (objs.map obT)] (fun x=>(∀ c,AkR objs root = .error c→(c=50→∃ j,j.length=20∧x = .tup [.val (.slice none 0 0),ide (.fp (.agg [X0 j,i64 ((50:Nat):Int)]))])∧(c≠50→x = .tup [.val (.slice none 0 0),eno (c:Int)]))∧(∀ o,AkR objs root = .ok o→x = .tup [.sl 24 (o.map enJ),.val .nilIface])) :=
 (BrD hol hob hkr hnc root hr).conv fun x hx=>by
  cases hf:AkR objs root with
  | error c =>
   rw [hf] at hx
   exact ⟨x,⟨fun c' e=>(by cases e; exact hx),fun o e=>(by cases e)⟩,fun _ _ _ h=>h⟩
  | ok o =>
   rw [hf] at hx
   obtain ⟨y,hy,rfl⟩:=hx
   refine ⟨.tup [.sl 24 (o.map enJ),.val .nilIface],⟨fun c' e=>(by cases e),fun o' e=>(by cases e; rfl)⟩,Aim.tup (.cons (fun c w v h => ?_) Aim.refl)⟩
   rcases hy with rfl | ⟨rfl,rfl⟩
   ·exact h
   ·exact AjK c w v h
end
section
open Go.RowKit
variable [AL]
structure OkJ (e:EnJ):Prop where
 id:e.id.length=20
 good:Bqn e=true
 path:e.path.length≤100
end
section
open Go.RowKit
variable [AL]
variable {pok:List UInt8→Bool} {sha:List UInt8→List UInt8}
def BiS (l:List EnJ):Prop:=∀ e∈l,e.id.length=20
theorem BiS.perm {l m:List EnJ} (h:BiS l) (hp:m.Perm l):BiS m:=fun e he=>h e (hp.mem_iff.1 he)
theorem BkD {l:List EnJ} (h:BiS l):BiS (AlT ltJ l):=h.perm (Agz l)
structure Btb (pok:List UInt8→Bool) (sha:List UInt8→List UInt8):Prop where
 len:∀ p,pok p=true→p.length≤100
 sha:∀ x,(sha x).length=20
end
section
variable [AL]
set_option maxRecDepth 100000
def Aej:Af := .seq (.block 1 (.seq (.draw 57 [mv_ 17 0,mv_ 18 5,po_ 19 (.idxA 24 (.t 17) (.t 18)),po_ 20 (.fieldA 0 0 (.t 19)),po_ 21 (.load false 1 (.t 20)),mv_ 22 1,mv_ 23 5,po_ 24 (.idxA 24 (.t 22) (.t 23)),po_ 25 (.fieldA 0 0 (.t 24)),po_ 26 (.load false 1 (.t 25)),po_ 27 (.bin 9 .neq (.t 21) (.t 26)),mv_ 28 27,⟨some 29,.p (.mov (.t 0)),some ⟨28,false⟩⟩,⟨some 30,.p (.mov (.t 5)),some ⟨28,false⟩⟩,⟨some 31,.p (.idxA 24 (.t 29) (.t 30)),some ⟨28,false⟩⟩,⟨some 32,.p (.fieldA 1 1 (.t 31)),some ⟨28,false⟩⟩,⟨some 33,.p (.load false 1 (.t 32)),some ⟨28,false⟩⟩,⟨some 34,.p (.mov (.t 1)),some ⟨28,false⟩⟩,⟨some 35,.p (.mov (.t 5)),some ⟨28,false⟩⟩,⟨some 36,.p (.idxA 24 (.t 34) (.t 35)),some ⟨28,false⟩⟩,⟨some 37,.p (.fieldA 1 1 (.t 36)),some ⟨28,false⟩⟩,⟨some 38,.p (.load false 1 (.t 37)),some ⟨28,false⟩⟩,⟨some 39,.p (.bin 3 .neq (.t 33) (.t 38)),some ⟨28,false⟩⟩,po_ 40 (.pick (.t 28) (.c (.bool true)) (.t 39)),mv_ 41 40,⟨some 42,.p (.mov (.t 0)),some ⟨41,false⟩⟩,⟨some 43,.p (.mov (.t 5)),some ⟨41,false⟩⟩,⟨some 44,.p (.idxA 24 (.t 42) (.t 43)),some ⟨41,false⟩⟩,⟨some 45,.p (.fieldA 2 2 (.t 44)),some ⟨41,false⟩⟩,⟨some 46,.p (.load true 20 (.t 45)),some ⟨41,false⟩⟩,⟨some 47,.p (.mov (.t 1)),some ⟨41,false⟩⟩,⟨some 48,.p (.mov (.t 5)),some ⟨41,false⟩⟩,⟨some 49,.p (.idxA 24 (.t 47) (.t 48)),some ⟨41,false⟩⟩,⟨some 50,.p (.fieldA 2 2 (.t 49)),some ⟨41,false⟩⟩,⟨some 51,.p (.load true 20 (.t 50)),some ⟨41,false⟩⟩,⟨some 52,.p (.gen (.eqA 20 true) [.t 46,.t 51]),some ⟨41,false⟩⟩,po_ 53 (.pick (.t 41) (.c (.bool true)) (.t 52)),mv_ 54 53,⟨some 55,.p (.mov (.t 0)),some ⟨54,false⟩⟩,⟨some 56,.p (.mov (.t 5)),some ⟨54,false⟩⟩,⟨some 57,.p (.idxA 24 (.t 55) (.t 56)),some ⟨54,false⟩⟩,⟨some 58,.p (.fieldA 3 22 (.t 57)),some ⟨54,false⟩⟩,⟨some 59,.p (.load false 1 (.t 58)),some ⟨54,false⟩⟩,⟨some 60,.p (.mov (.t 1)),some ⟨54,false⟩⟩,⟨some 61,.p (.mov (.t 5)),some ⟨54,false⟩⟩,⟨some 62,.p (.idxA 24 (.t 60) (.t 61)),some ⟨54,false⟩⟩,⟨some 63,.p (.fieldA 3 22 (.t 62)),some ⟨54,false⟩⟩,⟨some 64,.p (.load false 1 (.t 63)),some ⟨54,false⟩⟩,⟨some 65,.p (.bin 3 .neq (.t 59) (.t 64)),some ⟨54,false⟩⟩,po_ 66 (.pick (.t 54) (.c (.bool true)) (.t 65)),mv_ 67 66,⟨some 68,.p (.mov (.t 0)),some ⟨67,false⟩⟩,⟨some 69,.p (.mov (.t 5)),some ⟨67,false⟩⟩,⟨some 70,.p (.idxA 24 (.t 68) (.t 69)),some ⟨67,false⟩⟩,⟨some 71,.p (.fieldA 4 23 (.t 70)),some ⟨67,false⟩⟩,⟨some 72,.p (.load false 1 (.t 71)),some ⟨67,false⟩⟩,⟨some 73,.p (.mov (.t 1)),some ⟨67,false⟩⟩,⟨some 74,.p (.mov (.t 5)),some ⟨67,false⟩⟩,⟨some 75,.p (.idxA 24 (.t 73) (.t 74)),some ⟨67,false⟩⟩,⟨some 76,.p (.fieldA 4 23 (.t 75)),some ⟨67,false⟩⟩,⟨some 77,.p (.load false 1 (.t 76)),some ⟨67,false⟩⟩,⟨some 78,.p (.bin 3 .neq (.t 72) (.t 77)),some ⟨67,false⟩⟩,po_ 79 (.pick (.t 67) (.c (.bool true)) (.t 78))] [0,1,5,79])
 (.cond (.t 79)
 (.seq (.ops [po_ 4 (.mov (.c (.bool false)))] [4])
  (.ret))
 (.skip))))
 (.ops [mv_ 15 5,po_ 16 (.bin 3 .add (.t 15) (ci_ 1)),mv_ 5 16] [0,1,5])
def Aeh:Af := .seq (.seq (.ops [mv_ 11 5,mv_ 12 0,po_ 13 (.lenV (.t 12)),po_ 14 (.bin 3 .lss (.t 11) (.t 13))] [0,1,5,14])
 (.cond (.t 14)
 (.skip)
 (.exit 0)))
 Aej
def Aed:Af := .block 0 (.loop [0,1,5] Aeh)
def Aem:Af := .seq (.ops [po_ 4 (.mov (.c (.bool true)))] [4])
 (.ret)
def AdY:Af := .seq (.seq (.ops [po_ 5 (.mov (ci_ 0))] [0,1,5])
 Aed)
 Aem
def Aex:Af := .seq (.seq (.ops [mv_ 6 0,po_ 7 (.lenV (.t 6)),mv_ 8 1,po_ 9 (.lenV (.t 8)),po_ 10 (.bin 3 .neq (.t 7) (.t 9))] [0,1,10])
 (.cond (.t 10)
 (.seq (.ops [po_ 4 (.mov (.c (.bool false)))] [4])
  (.ret))
 (.skip)))
 AdY
def AkF:Af := .seq (.ops [po_ 4 (.mov (.c (.bool false)))] [0,1])
 Aex
def Akb:List VR:=[.tmp 4]
theorem ApG:Tryz.f10.body.bind (trC Tryz.prog Tryz.f10.ntmps)=some (er AkF):=by kernel_rfl
theorem Ap2:trR Tryz.prog Tryz.f10.results.toList=some Akb:=by kernel_rfl
def Aje:=Aa Aej.eq_1
def Abm:=Aa Aeh.eq_1
def Ajn:=Aa Aed.eq_1
def Aja:=Aa Aem.eq_1
def Ajl:=Aa AdY.eq_1
def Ajp:=Aa Aex.eq_1
def AmE:=Aa AkF.eq_1
theorem Ami {K:TV→Prop} {e:Env} {H:List Ob}:res Akb e H K=res [.tmp 4] e H K:=Ad rfl
def AnK:=D7 80 Tryz.func10 ApG Ap2 rfl
def AaQ:Af := .seq (.block 1 (.draw 21 [mv_ 11 3,mv_ 12 0,mv_ 13 4,po_ 14 (.idxA 24 (.t 12) (.t 13)),po_ 15 (.fieldA 0 0 (.t 14)),po_ 16 (.load false 1 (.t 15)),mv_ 17 0,mv_ 18 4,po_ 19 (.idxA 24 (.t 17) (.t 18)),po_ 20 (.fieldA 1 1 (.t 19)),po_ 21 (.load false 1 (.t 20)),mv_ 22 0,mv_ 23 4,po_ 24 (.idxA 24 (.t 22) (.t 23)),po_ 25 (.fieldA 2 2 (.t 24)),po_ 26 (.load true 20 (.t 25)),mv_ 27 0,mv_ 28 4,po_ 29 (.idxA 24 (.t 27) (.t 28)),po_ 30 (.fieldA 3 22 (.t 29)),po_ 31 (.load false 1 (.t 30)),mv_ 32 0,mv_ 33 4,po_ 34 (.idxA 24 (.t 32) (.t 33)),po_ 35 (.fieldA 4 23 (.t 34)),po_ 36 (.load false 1 (.t 35)),⟨some 37,.p (.build [.val (.string (str [])),.val (.int .i64 ((0:Nat):Int)),.arr 20 1 [.val (.int .u8 ((0:Nat):Int)),.val (.int .u8 ((0:Nat):Int)),.val (.int .u8 ((0:Nat):Int)),.val (.int .u8 ((0:Nat):Int)),.val (.int .u8 ((0:Nat):Int)),.val (.int .u8 ((0:Nat):Int)),.val (.int .u8 ((0:Nat):Int)),.val (.int .u8 ((0:Nat):Int)),.val (.int .u8 ((0:Nat):Int)),.val (.int .u8 ((0:Nat):Int)),.val (.int .u8 ((0:Nat):Int)),.val (.int .u8 ((0:Nat):Int)),.val (.int .u8 ((0:Nat):Int)),.val (.int .u8 ((0:Nat):Int)),.val (.int .u8 ((0:Nat):Int)),.val (.int .u8 ((0:Nat):Int)),.val (.int .u8 ((0:Nat):Int)),.val (.int .u8 ((0:Nat):Int)),.val (.int .u8 ((0:Nat):Int)),.val (.int .u8 ((0:Nat):Int))],.val (.int .i64 ((0:Nat):Int)),.val (.int .i64 ((0:Nat):Int))] [1,1,20,1,1] [⟨0,.t 16⟩,⟨1,.t 21⟩,⟨2,.t 26⟩,⟨3,.t 31⟩,⟨4,.t 36⟩]),none⟩,⟨some 38,.s (.bslice 24 1 (.agg [.val (.string (str [])),.val (.int .i64 ((0:Nat):Int)),.arr 20 1 [.val (.int .u8 ((0:Nat):Int)),.val (.int .u8 ((0:Nat):Int)),.val (.int .u8 ((0:Nat):Int)),.val (.int .u8 ((0:Nat):Int)),.val (.int .u8 ((0:Nat):Int)),.val (.int .u8 ((0:Nat):Int)),.val (.int .u8 ((0:Nat):Int)),.val (.int .u8 ((0:Nat):Int)),.val (.int .u8 ((0:Nat):Int)),.val (.int .u8 ((0:Nat):Int)),.val (.int .u8 ((0:Nat):Int)),.val (.int .u8 ((0:Nat):Int)),.val (.int .u8 ((0:Nat):Int)),.val (.int .u8 ((0:Nat):Int)),.val (.int .u8 ((0:Nat):Int)),.val (.int .u8 ((0:Nat):Int)),.val (.int .u8 ((0:Nat):Int)),.val (.int .u8 ((0:Nat):Int)),.val (.int .u8 ((0:Nat):Int)),.val (.int .u8 ((0:Nat):Int))],.val (.int .i64 ((0:Nat):Int)),.val (.int .i64 ((0:Nat):Int))]) [⟨0,.t 37⟩]),none⟩,so_ 39 (.app 24 64 58 (.t 11) (.t 38)),mv_ 3 39] [0,3,4]))
 (.ops [mv_ 9 4,po_ 10 (.bin 3 .add (.t 9) (ci_ 1)),mv_ 4 10] [0,3,4])
def Aa2:Af := .seq (.seq (.ops [mv_ 5 4,mv_ 6 0,po_ 7 (.lenV (.t 6)),po_ 8 (.bin 3 .lss (.t 5) (.t 7))] [0,3,4,8])
 (.cond (.t 8)
 (.skip)
 (.exit 0)))
 AaQ
def Aa8:Af := .block 0 (.own 3 24 (.loop [0,3,4] Aa2))
def Aa6:Af := .seq (.ops [mv_ 40 3,mv_ 2 40] [2])
 (.ret)
def AaI:Af := .seq (.seq (.ops [po_ 4 (.mov (ci_ 0))] [0,3,4])
 Aa8)
 Aa6
def AaN:Af := .seq (.ops [po_ 3 (.mov (.c (.slice none 0 0)))] [0,3])
 AaI
def AgA:Af := .seq (.ops [po_ 2 (.mov (.c (.slice none 0 0)))] [0])
 AaN
def Ag6:List VR:=[.tmp 2]
theorem AmX:Tryz.f12.body.bind (trC Tryz.prog Tryz.f12.ntmps)=some (er AgA):=by kernel_rfl
theorem Am8:trR Tryz.prog Tryz.f12.results.toList=some Ag6:=by kernel_rfl
def Ag0:=Aa AaQ.eq_1
def WT:=Aa Aa2.eq_1
def Ag5:=Aa Aa8.eq_1
def Agv:=Aa Aa6.eq_1
def Ahk:=Aa AaI.eq_1
def AgU:=Aa AaN.eq_1
def Akt:=Aa AgA.eq_1
theorem Aj2 {K:TV→Prop} {e:Env} {H:List Ob}:res Ag6 e H K=res [.tmp 2] e H K:=Ad rfl
def Als:=D7 41 Tryz.func12 AmX Am8 rfl
end
section
open Go.RowKit
variable [AL]
theorem Bpn (l:List EnJ) (h20:BiS l) (hl:l.length≤1000000):P8 Tryz.prog 12 [.sl 24 (l.map enJ)] (fun r=>r = .sl 24 (l.map enJ)):=by
 refine Au.toFreshV (Als (by simp) ?_)
 simp -dsimp (disch:=first | assumption | omega | (simp only [Ac];try omega)) only [↓Ag,Ae,Ai,Ah,eq_self,Nat.reduceEqDiff,↓reduceIte,reduceCtorEq,↓Akt,↓AgU,↓Ahk,↓Ag5]
 refine Cj (fun q e H=>∃ (i k v cp:Nat),q=l.length - i∧i≤l.length∧H[k]?=some (.obj v (.arr i 24 ((l.take i).map enJ)))∧e=[(0,.sl 24 (l.map enJ)),(3,.os 24 k v [] 0 i cp),(4,i64 (i:Int))]) l.length ?_ ?_
 ·exact ⟨0,0,0,0,rfl,Nat.zero_le _,rfl,rfl⟩
 rintro q e H ⟨i,k,v,cp,rfl,hi,hk,rfl⟩
 have hkl:k<H.length:=(List.getElem?_eq_some_iff.1 hk).1
 have hwl:((l.take i).map enJ).length=i:=by rw [List.length_map,List.length_take,Nat.min_eq_left hi]
 have hwt:((l.take i).map enJ).take i=(l.take i).map enJ:=List.take_of_length_le (by omega)
 by_cases hil:i<l.length
 ·have hg:l[i]?=some l[i]:=List.getElem?_eq_getElem hil
  have hx20:=h20 _ (List.mem_of_getElem? hg)
  have hsn:(l.take (i+1)).map enJ=(l.take i).map enJ++[enJ l[i]]:=by rw [List.take_succ_eq_append_getElem hil,List.map_append]; rfl
  generalize l[i]=x at *
  have hxJ:=YR x
  rw [hxJ] at hsn
  have hx:(x.id.map by8).length=20:=by rw [List.length_map]; exact hx20
  have hA:∀ T:List Ob,(H++T)[k]?=some (.obj v (.arr i 24 ((l.take i).map enJ))):=fun T=>by rw [List.getElem?_append_left hkl]; exact hk
  simp -dsimp (disch:=first | assumption | omega | (simp only [Ac];try omega)) only [↓Ag,Ae,Ai,Ah,eq_self,Nat.reduceEqDiff,↓reduceIte,Nat.reduceAdd,reduceCtorEq,Nat.reduceLeDiff,hg,hxJ,hA,hwl,AqV,↓WT,↓Ag0]
  refine Aq (l.length - (i+1)) (by omega) (by simp) ⟨i+1,k,v+1,i+1,rfl,by omega,?_,rfl⟩
  rw [List.getElem?_append_left (by simp; omega),List.getElem?_set_self (by omega),hsn]
 ·have hi2:i=l.length:=by omega
  have htt:l.take i=l:=List.take_of_length_le (by omega)
  rw [htt] at hwl hwt hk
  have hsc:=Af7 l
  simp -dsimp (disch:=first | assumption | omega | (simp only [Ac];try omega)) only [↓Ag,Ae,Ai,Ah,eq_self,Nat.reduceEqDiff,↓reduceIte,reduceCtorEq,hk,hwl,hsc,↓WT,↓Agv,↓Aj2]
set_option maxRecDepth 100000 in
set_option maxHeartbeats 4000000 in
theorem BiW (l:List EnJ) (h20:BiS l) (hl:l.length≤1000000):BD Tryz.prog 10 [.sl 24 (l.map enJ),.sl 24 (l.map enJ)] (fun r=>r=tb true):=by
 refine Au.toPureV (AnK (by simp) ?_)
 simp -dsimp (disch:=first | assumption | omega | (simp only [Ac];try omega)) only [↓Ag,Ae,Ai,Ah,eq_self,Nat.reduceEqDiff,↓reduceIte,Nat.reduceAdd,reduceCtorEq,↓AmE,↓Ajp,↓Ajl,↓Ajn]
 refine Cj (fun q e H=>∃ i:Nat,q=l.length - i∧i≤l.length∧H=[]∧e=[(0,.sl 24 (l.map enJ)),(1,.sl 24 (l.map enJ)),(5,i64 (i:Int))]) l.length ?_ ?_
 ·exact ⟨0,rfl,by omega,rfl,rfl⟩
 ·rintro q e H ⟨i,rfl,hi,rfl,rfl⟩
  by_cases hil:i<l.length
  ·have hg:l[i]?=some l[i]:=List.getElem?_eq_getElem hil
   have hx20:=h20 _ (List.mem_of_getElem? hg)
   generalize l[i]=p at *
   have hxJ:=YR p
   have hp20:(p.id.map by8).length=20:=by rw [List.length_map]; exact hx20
   have hss:(str p.path == str p.path)=true:=beq_self_eq_true (α:=Array UInt8) _
   simp -dsimp (disch:=first | assumption | omega | (simp only [Ac];try omega)) only [↓Ag,Ae,Ai,Ah,eq_self,Nat.reduceEqDiff,↓reduceIte,Nat.reduceAdd,reduceCtorEq,hg,hxJ,beq_self_eq_true,↓Abm,↓Aje]
   exact Aq (l.length - (i+1)) (by omega) (by simp) ⟨i+1,rfl,by omega,rfl,rfl⟩
  ·simp -dsimp (disch:=first | assumption | omega | (simp only [Ac];try omega)) only [↓Ag,Ae,Ai,Ah,eq_self,Nat.reduceEqDiff,↓reduceIte,reduceCtorEq,↓Abm,↓Aja,↓Ami]
end
section
open Go.RowKit Kit
variable [AL]
theorem Biy (l:List ObD) (hl:l.length≤1000000):BD Tryz.prog 5 [.sl 2 (l.map obT)] (fun r=>r = .sl 2 (l.map obT)):=by
 refine Au.toPureV (Akl (by simp) ?_)
 simp -dsimp (disch:=first | assumption | omega | (simp only [Ac];try omega)) only [↓Ag,Ae,Ai,Ah,eq_self,Nat.reduceEqDiff,↓reduceIte,reduceCtorEq,↓Ajf,↓AeH,↓AfS,↓AfI]
 refine Cj (fun q e H=>∃ (i k v cp:Nat),q=l.length - i∧i≤l.length∧H[k]?=some (.obj v (.arr i 2 ((l.take i).map obT)))∧e=[(0,.sl 2 (l.map obT)),(3,.os 2 k v [] 0 i cp),(4,i64 (i:Int))]) l.length ?_ ?_
 ·exact ⟨0,0,0,0,rfl,Nat.zero_le _,rfl,rfl⟩
 rintro q e H ⟨i,k,v,cp,rfl,hi,hk,rfl⟩
 have hkl:k<H.length:=(List.getElem?_eq_some_iff.1 hk).1
 have hwl:((l.take i).map obT).length=i:=by rw [List.length_map,List.length_take,Nat.min_eq_left hi]
 have hwt:((l.take i).map obT).take i=(l.take i).map obT:=List.take_of_length_le (by omega)
 by_cases hil:i<l.length
 ·have hg:l[i]?=some l[i]:=List.getElem?_eq_getElem hil
  have hsn:(l.take (i+1)).map obT=(l.take i).map obT++[obT l[i]]:=by rw [List.take_succ_eq_append_getElem hil,List.map_append]; rfl
  generalize l[i]=x at *
  have hA:∀ T:List Ob,(H++T)[k]?=some (.obj v (.arr i 2 ((l.take i).map obT))):=fun T=>by rw [List.getElem?_append_left hkl]; exact hk
  simp -dsimp (disch:=first | assumption | omega | (simp only [Ac];try omega)) only [↓Ag,Ae,Ai,Ah,eq_self,Nat.reduceEqDiff,↓reduceIte,Nat.reduceAdd,reduceCtorEq,Nat.reduceLeDiff,hg,hA,hwl,AqV,↓VN,↓AeQ]
  refine Aq (l.length - (i+1)) (by omega) (by simp) ⟨i+1,k,v+1,i+1,rfl,by omega,?_,rfl⟩
  rw [List.getElem?_append_left (by simp; omega),List.getElem?_set_self (by omega),hsn]
 ·have hi2:i=l.length:=by omega
  have htt:l.take i=l:=List.take_of_length_le (by omega)
  rw [htt] at hwl hwt hk
  simp -dsimp (disch:=first | assumption | omega | (simp only [Ac];try omega)) only [↓Ag,Ae,Ai,Ah,eq_self,Nat.reduceEqDiff,↓reduceIte,reduceCtorEq,hk,hwl,↓VN,↓AfB,↓Ai2]
def AgC (a b:ObD):Prop:=∀ i,Xy a=some i→Xy b=some i→a.kind=b.kind∧a.data=b.data
variable [Ar] [AB]
theorem BmQ (l:List ObD) (hl:l.length≤1000000) (hob:∀ o∈l,o.data.length≤1000000):BD Tryz.prog 6 [.sl 2 (l.map obT)] (fun r=>r=tb true∨(r=tb false∧AcS l)):=by
 refine Au.toPureV (Amw (by simp) ?_)
 simp -dsimp (disch:=first | assumption | omega | (simp only [Ac];try omega)) only [↓Ag,Ae,Ai,Ah,eq_self,↓reduceIte,reduceCtorEq,↓Alt,↓Agk,↓Aio]
 refine Cj (fun q e H=>∃ (i:Nat),q=l.length - i∧i≤l.length∧(∀ (p k:Nat) a b,p<i→k<p→l[p]?=some a→l[k]?=some b→AgC a b)∧e=[(0,.sl 2 (l.map obT)),(3,i64 (i:Int))]) l.length ?_ ?_
 ·exact ⟨0,rfl,Nat.zero_le _,fun p k a b h=>by omega,rfl⟩
 rintro q e H ⟨i,rfl,hi,hP,rfl⟩
 by_cases hil:i<l.length
 case neg =>
  have hi2:i=l.length:=by omega
  simp -dsimp (disch:=first | assumption | omega | (simp only [Ac];try omega)) only [↓Ag,Ae,Ai,Ah,eq_self,Nat.reduceEqDiff,↓reduceIte,reduceCtorEq,↓YZ,↓Ag2,↓XX]
  refine .inr (fun a ha b hb j hja hjb => ?_)
  obtain ⟨p,hp⟩:=List.getElem?_of_mem ha
  obtain ⟨k,hk⟩:=List.getElem?_of_mem hb
  have hpl:=(List.getElem?_eq_some_iff.1 hp).1
  have hkl:=(List.getElem?_eq_some_iff.1 hk).1
  rcases Nat.lt_trichotomy p k with h | h | h
  ·have:=hP k p b a (by omega) h hk hp j hjb hja
   exact ⟨this.1.symm,this.2.symm⟩
  ·subst h; rw [hp] at hk; cases hk; exact ⟨rfl,rfl⟩
  ·exact hP p k a b (by omega) h hp hk j hja hjb
 have hg:l[i]?=some l[i]:=List.getElem?_eq_getElem hil
 have hod:=hob _ (List.mem_of_getElem? hg)
 generalize l[i]=a at *
 have hid:=Bo6 a.kind a.data hod
 have ext2:(∀ (k':Nat) b',k'<i→l[k']?=some b'→AgC a b')→∀ (p k:Nat) a b,p<i+1→k<p→l[p]?=some a→l[k]?=some b→AgC a b:=fun h p k a' b' h1 h2 h3 h4=>by
  by_cases e:p=i
  ·subst e; rw [hg] at h3; cases h3; exact h k b' h2 h4
  ·exact hP p k a' b' (by omega) h2 h3 h4
 have ext:(∀ b',AgC a b')→∀ (p k:Nat) a b,p<i+1→k<p→l[p]?=some a→l[k]?=some b→AgC a b:=fun h=>ext2 fun k' b' _ _=>h b'
 simp -dsimp (disch:=first | assumption | omega | (simp only [Ac];try omega)) only [↓Ag,Ae,Ai,Ah,eq_self,Nat.reduceEqDiff,↓reduceIte,Nat.reduceAdd,reduceCtorEq,hg,↓YZ,↓AhN]
 refine hid.pure.calls rfl fun r hr => ?_
 cases he:Af0 a.kind a.data with
 | error c =>
  rw [hr.2 c he]
  have hc0:c≠0:=by
   unfold Af0 at he
   split at he
   ·cases he; omega
   ·split at he
    ·cases he
    ·cases he; omega
  have hz20:((List.replicate 20 (0:UInt8)).map by8).length=20:=by simp
  have hno:∀ b',AgC a b':=fun b' i h=>by unfold Xy at h; rw [he] at h; cases h
  have hP':=ext hno
  simp -dsimp (disch:=first | assumption | omega | (simp only [Ac];try omega)) only [↓Ag,Ae,Ai,Ah,eq_self,Nat.reduceEqDiff,↓reduceIte,reduceCtorEq,↓Zg,↓Zw]
  refine Cj (fun q e H2=>q=0∧H2.length=H.length+1∧e=[(0,.sl 2 (l.map obT)),(3,i64 (i:Int)),(4,.op H.length 0 []),(5,i64 (c:Int)),(6,i64 ((0:Nat):Int))]) 0 ?_ ?_
  ·exact ⟨rfl,by simp,rfl⟩
  rintro q e H2 ⟨rfl,hH2,rfl⟩
  by_cases hi0:0<i
  ·simp -dsimp (disch:=first | assumption | omega | (simp only [Ac];try omega)) only [↓Ag,Ae,Ai,Ah,eq_self,Nat.reduceEqDiff,↓reduceIte,reduceCtorEq,hc0,hi0,↓LZ,↓RZ]
   exact Aq (l.length - (i+1)) (by omega) (by omega) ⟨i+1,rfl,by omega,hP',rfl⟩
  ·simp -dsimp (disch:=first | assumption | omega | (simp only [Ac];try omega)) only [↓Ag,Ae,Ai,Ah,eq_self,Nat.reduceEqDiff,↓reduceIte,reduceCtorEq,hi0,↓LZ,↓RZ]
   exact Aq (l.length - (i+1)) (by omega) (by omega) ⟨i+1,rfl,by omega,hP',rfl⟩
 | ok b =>
 rw [hr.1 b he]
 have hsl:((sha b).map by8).length=20:=by rw [List.length_map]; exact JC b
 have hidb:Xy a=some (sha b):=by unfold Xy; rw [he]
 simp -dsimp (disch:=first | assumption | omega | (simp only [Ac];try omega)) only [↓Ag,Ae,Ai,Ah,eq_self,Nat.reduceEqDiff,↓reduceIte,reduceCtorEq,↓Zg,↓Zw]
 refine Cj (fun q e H2=>∃ k:Nat,q=i - k∧k≤i∧(∀ (k':Nat) b',k'<k→l[k']?=some b'→AgC a b')∧H.length+1≤H2.length∧H2[H.length]?=some (.obj 0 (X0 (sha b)))∧e=[(0,.sl 2 (l.map obT)),(3,i64 (i:Int)),(4,.op H.length 0 []),(5,i64 ((0:Nat):Int)),(6,i64 (k:Int))]) i ?_ ?_
 ·exact ⟨0,rfl,Nat.zero_le _,fun k' b' h=>by omega,by simp,by simp,rfl⟩
 rintro q e H2 ⟨k,rfl,hk,hQ,hHl,g1,rfl⟩
 by_cases hki:k<i
 case neg =>
  have hki2:k=i:=by omega
  subst hki2
  have hP':=ext2 hQ
  simp -dsimp (disch:=first | assumption | omega | (simp only [Ac];try omega)) only [↓Ag,Ae,Ai,Ah,eq_self,Nat.reduceEqDiff,↓reduceIte,reduceCtorEq,↓LZ,↓RZ]
  exact Aq (l.length - (k+1)) (by omega) (by omega) ⟨k+1,rfl,by omega,hP',rfl⟩
 obtain ⟨a2,hg2⟩:∃ a2,l[k]?=some a2:=⟨_,List.getElem?_eq_getElem (by omega)⟩
 have hod2:=hob _ (List.mem_of_getElem? hg2)
 have hid2:=Bo6 a2.kind a2.data hod2
 have l1:H.length<H2.length:=by omega
 have A1:∀ T:List Ob,(H2++T)[H.length]?=some (.obj 0 (X0 (sha b))):=fun T=>by rw [List.getElem?_append_left l1]; exact g1
 have nextQ:AgC a a2→∀ (k':Nat) b',k'<k+1→l[k']?=some b'→AgC a b':=fun h k' b' h1 h2=>by
  by_cases e:k'=k
  ·subst e; rw [hg2] at h2; cases h2; exact h
  ·exact hQ k' b' (by omega) h2
 simp -dsimp (disch:=first | assumption | omega | (simp only [Ac];try omega)) only [↓Ag,Ae,Ai,Ah,eq_self,Nat.reduceEqDiff,↓reduceIte,Nat.reduceAdd,reduceCtorEq,hg2,↓LZ,↓Aiy]
 refine hid2.pure.calls rfl fun r2 hr2 => ?_
 cases he2:Af0 a2.kind a2.data with
 | error c =>
  rw [hr2.2 c he2]
  have hc0:c≠0:=by
   unfold Af0 at he2
   split at he2
   ·cases he2; omega
   ·split at he2
    ·cases he2
    ·cases he2; omega
  have hz20:((List.replicate 20 (0:UInt8)).map by8).length=20:=by simp
  have hQ':=nextQ fun j _ h=>by unfold Xy at h; rw [he2] at h; cases h
  simp -dsimp (disch:=first | assumption | omega | (simp only [Ac];try omega)) only [↓Ag,Ae,Ai,Ah,eq_self,Nat.reduceEqDiff,↓reduceIte,reduceCtorEq,hc0,↓Jq]
  exact Aq (i - (k+1)) (by omega) (by simp; omega) ⟨k+1,rfl,by omega,hQ',by simp; omega,A1 _,rfl⟩
 | ok b2 =>
 rw [hr2.1 b2 he2]
 have hsl2:((sha b2).map by8).length=20:=by rw [List.length_map]; exact JC b2
 have hidb2:Xy a2=some (sha b2):=by unfold Xy; rw [he2]
 have gX:(H2++[Ob.obj 0 (X0 (sha b2))])[H2.length]?=some (.obj 0 (X0 (sha b2))):=by simp
 by_cases hss:sha b=sha b2
 case neg =>
  have hbq:(sha b == sha b2)=false:=by simpa using hss
  have hQ':=nextQ fun j h1 h2=>by rw [hidb] at h1; rw [hidb2] at h2; exact absurd (by rw [Option.some.inj h1,Option.some.inj h2]) hss
  simp -dsimp (disch:=first | assumption | omega | (simp only [Ac];try omega)) only [↓Ag,Ae,Ai,Ah,eq_self,Nat.reduceEqDiff,↓reduceIte,reduceCtorEq,A1,gX,hbq,↓Jq]
  exact Aq (i - (k+1)) (by omega) (by simp; omega) ⟨k+1,rfl,by omega,hQ',by simp; omega,A1 _,rfl⟩
 have hbq:(sha b == sha b2)=true:=by simpa using hss
 by_cases hkk:a.kind=a2.kind
 case neg =>
  simp -dsimp (disch:=first | assumption | omega | (simp only [Ac];try omega)) only [↓Ag,Ae,Ai,Ah,eq_self,Nat.reduceEqDiff,↓reduceIte,reduceCtorEq,A1,gX,hg,hg2,hbq,hkk,↓Jq,↓XX]
  exact .inl trivial
 by_cases hdd:a.data=a2.data
 case neg =>
  simp -dsimp (disch:=first | assumption | omega | (simp only [Ac];try omega)) only [↓Ag,Ae,Ai,Ah,eq_self,Nat.reduceEqDiff,↓reduceIte,Nat.reduceAdd,reduceCtorEq,A1,gX,hg,hg2,hbq,hkk,hdd,↓Jq,↓XX]
  exact .inl trivial
 have hQ':=nextQ fun j _ _=>⟨hkk,hdd⟩
 simp -dsimp (disch:=first | assumption | omega | (simp only [Ac];try omega)) only [↓Ag,Ae,Ai,Ah,eq_self,Nat.reduceEqDiff,↓reduceIte,Nat.reduceAdd,reduceCtorEq,A1,gX,hg,hg2,hbq,hkk,hdd,↓Jq]
 exact Aq (i - (k+1)) (by omega) (by simp; omega) ⟨k+1,rfl,by omega,hQ',by simp; omega,A1 _,rfl⟩
end
section
open Go.RowKit Kit
variable [AL] [Ar] [AB] [Be] [BB] [CX]
theorem A3K:BD Tryz.prog 10 [.val (.slice none 0 0),.val (.slice none 0 0)] (fun r=>r=tb true) :=
 BD.argL (BiW [] (fun e h=>by cases h) (by simp)) (.cons AjK (.cons AjK .nil))
theorem Bkj {trees:List ObD} (hol:trees.length≤60) (hob:∀ o∈trees,o.data.length≤1000000) (hkr:∀ o∈trees,-9223372036854775808≤o.kind∧o.kind≤9223372036854775807) (hnc:AcS trees) {root:List UInt8} (hr:root.length=20) {ri:Nat} {H:List Ob} (hri:H[ri]?=some (.obj 0 (X0 root))) {e:Env} (e0:get e 0 = .sl 2 (trees.map obT)) (e9:get e 9 = .sl 2 (trees.map obT)) (e11:get e 11 = .op ri 0 []) :
  vwp Tryz.prog MR (Acy RG fun x H'=>CQ (Oq H' (Asx H' 2) x) fun r=>r=tb true) e H:=by
 have hI:(root.map by8).length=20:=by rw [List.length_map]; exact hr
 have hf:=Bro (by omega) hob hkr hnc root hr
 have hg:=Bn6 (by omega) hob root hr
 simp -dsimp (disch:=first | assumption | omega | (simp only [Ac];try omega)) only [↓Ag,Ae,Ai,Ah,eq_self,Nat.reduceEqDiff,↓reduceIte,reduceCtorEq,hri,e0,e11,↓AbG]
 refine Js (hf.calls (by simp [DI,Hm]) fun r hr1 => ?_)
 have hss:(∀ o,AkR trees root = .ok o→o.length≤2000∧BiS o):=fun o h=>by
  unfold AkR at h
  cases hw:LD (JR trees) 102 root [] [] with
  | error c=>rw [hw] at h; cases h
  | ok o' =>
   rw [hw] at h; cases h
   have:=Adn Ab7 (out:=[]) ⟨by simp,by simp⟩ hw
   exact ⟨by rw [(Agz _).length_eq]; exact this.1,BkD this.2⟩
 cases hfl:AkR trees root with
 | error c =>
  have hcode:Alb c:=by
   unfold AkR at hfl
   cases hw:LD (JR trees) 102 root [] [] with
   | error c'=>rw [hw] at hfl; cases hfl; exact Ahh hw
   | ok o'=>rw [hw] at hfl; cases hfl
  have hc71:c≤71:=by rcases hcode with h | h | h | h<;>omega
  have hg':=hg.mono (R':=fun r=>r = .tup [.val (.slice none 0 0),i64 (c:Int)]) fun r h=>by rw [hfl] at h; exact h
  by_cases hc:c=50
  ·obtain ⟨j,hj,rfl⟩:=(hr1.1 c hfl).1 hc
   subst hc
   have hJ:(j.map by8).length=20:=by rw [List.length_map]; exact hj
   simp -dsimp (disch:=first | assumption | omega | (simp only [Ac];try omega)) only [↓Ag,Ae,Ai,Ah,eq_self,Nat.reduceEqDiff,↓reduceIte,↓Kt,hri,e9,e11]
   refine Js (hg'.calls (by simp [DI,Hm]) fun r hr2 => ?_)
   subst hr2
   simp -dsimp (disch:=first | assumption | omega | (simp only [Ac];try omega)) only [↓Ag,Ae,Ai,Ah,eq_self,Nat.reduceEqDiff,↓reduceIte]
   refine Js (A3K.calls rfl fun r hr3 => ?_)
   subst hr3
   simp -dsimp (disch:=first | assumption | omega | (simp only [Ac];try omega)) only [↓Ag,Ae,Ai,Ah,eq_self,Nat.reduceEqDiff,↓reduceIte]
   refine Js ((Bo2 hj).calls (by simp [DI,Hm]) fun r hr4 => ?_)
   subst hr4
   simp -dsimp (disch:=first | assumption | omega | (simp only [Ac];try omega)) only [↓Ag,Ae,Ai,Ah,eq_self,Nat.reduceEqDiff,↓reduceIte,↓D8]
  ·have hr1':=(hr1.1 c hfl).2 hc
   subst hr1'
   simp -dsimp (disch:=first | assumption | omega | (simp only [Ac];try omega)) only [↓Ag,Ae,Ai,Ah,eq_self,Nat.reduceEqDiff,↓reduceIte,↓Kt,hri,e9,e11]
   refine Js (hg'.calls (by simp [DI,Hm]) fun r hr2 => ?_)
   subst hr2
   simp -dsimp (disch:=first | assumption | omega | (simp only [Ac];try omega)) only [↓Ag,Ae,Ai,Ah,eq_self,Nat.reduceEqDiff,↓reduceIte]
   refine Js (A3K.calls rfl fun r hr3 => ?_)
   subst hr3
   simp -dsimp (disch:=first | assumption | omega | (simp only [Ac];try omega)) only [↓Ag,Ae,Ai,Ah,eq_self,Nat.reduceEqDiff,↓reduceIte]
   refine Js (Btj.calls rfl fun r hr4 => ?_)
   subst hr4
   simp -dsimp (disch:=first | assumption | omega | (simp only [Ac];try omega)) only [↓Ag,Ae,Ai,Ah,eq_self,Nat.reduceEqDiff,↓reduceIte,↓D8]
 | ok o =>
  obtain ⟨ho,hids⟩:=hss o hfl
  have hr1':=hr1.2 o hfl
  subst hr1'
  have hg':=hg.mono (R':=fun r=>r = .tup [.sl 24 (o.map enJ),i64 ((0:Nat):Int)]) fun r h=>by rw [hfl] at h; exact h
  have hsame:=BiW o hids (by omega)
  simp -dsimp (disch:=first | assumption | omega | (simp only [Ac];try omega)) only [↓Ag,Ae,Ai,Ah,eq_self,Nat.reduceEqDiff,↓reduceIte,↓Kt,hri,e9,e11]
  refine Js (hg'.calls (by simp [DI,Hm]) fun r hr2 => ?_)
  subst hr2
  simp -dsimp (disch:=first | assumption | omega | (simp only [Ac];try omega)) only [↓Ag,Ae,Ai,Ah,eq_self,Nat.reduceEqDiff,↓reduceIte]
  refine Js (hsame.calls (by simp [DI,Hm]) fun r hr3 => ?_)
  subst hr3
  simp -dsimp (disch:=first | assumption | omega | (simp only [Ac];try omega)) only [↓Ag,Ae,Ai,Ah,eq_self,Nat.reduceEqDiff,↓reduceIte]
  refine Js (BrP.calls rfl fun r hr4 => ?_)
  subst hr4
  simp -dsimp (disch:=first | assumption | omega | (simp only [Ac];try omega)) only [↓Ag,Ae,Ai,Ah,eq_self,Nat.reduceEqDiff,↓reduceIte,↓D8]
theorem Am1 (trees:List ObD) (hd:∀ o∈trees,o.data.length≤140737488355328) (hkr:∀ o∈trees,-9223372036854775808≤o.kind∧o.kind≤9223372036854775807) (pick:Int) (hp1 : -9223372036854775808≤pick) (hp2:pick≤9223372036854775807) (other:List UInt8) (ho:other.length=20) :
  BD Tryz.prog 3 [.sl 2 (trees.map obT),i64 pick,X0 other] (fun r=>r=tb true):=by
 refine Au.toPureV (Ag3 (by simp) ?_)
 have hO:(other.map by8).length=20:=by rw [List.length_map]; exact ho
 by_cases h60:trees.length > 60
 ·simp -dsimp (disch:=first | assumption | omega | (simp only [Ac];try omega)) only [↓Ag,Ae,Ai,Ah,eq_self,Nat.reduceEqDiff,↓reduceIte,Nat.reduceAdd,reduceCtorEq,h60,↓Vs,↓Qg,↓D8]
 simp -dsimp (disch:=first | assumption | omega | (simp only [Ac];try omega)) only [↓Ag,Ae,Ai,Ah,eq_self,Nat.reduceEqDiff,↓reduceIte,Nat.reduceAdd,reduceCtorEq,h60,↓Vs,↓Qg,↓Aaf,↓Aam,↓AbM]
 refine Cj (fun q e H=>∃ (i n:Nat),q=trees.length - i∧i≤trees.length∧n≤20000∧(∀ o∈trees.take i,o.data.length≤20000)∧H=[.obj 0 (X0 other)]∧e=[(0,.sl 2 (trees.map obT)),(1,i64 pick),(5,.op 0 0 []),(7,i64 (n:Int)),(8,i64 (i:Int))]) trees.length ?_ ?_
 ·exact ⟨0,0,rfl,Nat.zero_le _,by omega,by simp,rfl,rfl⟩
 rintro q e H ⟨i,n,rfl,hi,hn,hsm,rfl,rfl⟩
 by_cases hil:i<trees.length
 ·have hg:trees[i]?=some trees[i]:=List.getElem?_eq_getElem hil
  have hdi:=hd _ (List.mem_of_getElem? hg)
  have htk:=List.take_succ_eq_append_getElem hil
  generalize trees[i]=ob at *
  by_cases hbig:n+ob.data.length > 20000
  ·simp -dsimp (disch:=first | assumption | omega | (simp only [Ac];try omega)) only [↓Ag,Ae,Ai,Ah,eq_self,Nat.reduceEqDiff,↓reduceIte,Nat.reduceAdd,reduceCtorEq,hg,hbig,↓Ku,↓QN,↓D8]
  ·simp -dsimp (disch:=first | assumption | omega | (simp only [Ac];try omega)) only [↓Ag,Ae,Ai,Ah,eq_self,Nat.reduceEqDiff,↓reduceIte,Nat.reduceAdd,reduceCtorEq,hg,hbig,↓Ku,↓QN]
   refine Aq (trees.length - (i+1)) (by omega) (by simp) ⟨i+1,n+ob.data.length,rfl,by omega,by omega,fun o ho' => ?_,rfl,rfl⟩
   rw [htk] at ho'
   rcases List.mem_append.1 ho' with h | h
   ·exact hsm o h
   ·rw [List.mem_singleton.1 h]; omega
 have hi2:i=trees.length:=by omega
 rw [hi2,List.take_length] at hsm
 have hob:∀ o∈trees,o.data.length≤1000000:=fun o h=>by have:=hsm o h; omega
 simp -dsimp (disch:=first | assumption | omega | (simp only [Ac];try omega)) only [↓Ag,Ae,Ai,Ah,eq_self,Nat.reduceEqDiff,↓reduceIte,reduceCtorEq,↓Ku,↓Aan]
 refine Js ((Biy trees (by omega)).calls (by simp [DI,Hm]) fun r hr => ?_)
 subst hr
 simp -dsimp (disch:=first | assumption | omega | (simp only [Ac];try omega)) only [↓Ag,Ae,Ai,Ah,eq_self,Nat.reduceEqDiff,↓reduceIte,reduceCtorEq,↓Aai]
 refine Js ((BmQ trees (by omega) hob).calls (by simp [DI,Hm]) fun r hr => ?_)
 rcases hr with rfl | ⟨rfl,hnc⟩
 ·simp -dsimp (disch:=first | assumption | omega | (simp only [Ac];try omega)) only [↓Ag,Ae,Ai,Ah,eq_self,Nat.reduceEqDiff,↓reduceIte,reduceCtorEq,↓Qe,↓D8]
 simp -dsimp (disch:=first | assumption | omega | (simp only [Ac];try omega)) only [↓Ag,Ae,Ai,Ah,eq_self,Nat.reduceEqDiff,↓reduceIte,reduceCtorEq,↓Qe,↓AbE,↓AbR]
 have h7:=fun root hr ri H hri e=>Bkj (trees:=trees) (by omega) hob hkr hnc (root:=root) hr (ri:=ri) (H:=H) hri (e:=e)
 by_cases h0:0<trees.length
 case neg =>
  simp -dsimp (disch:=first | assumption | omega | (simp only [Ac];try omega)) only [↓Ag,Ae,Ai,Ah,eq_self,Nat.reduceEqDiff,↓reduceIte,reduceCtorEq,h0,↓Kr]
  refine h7 other ho 1 _ ?_ _ ?_ ?_ ?_<;>rfl
 by_cases hpk:0≤pick
 case neg =>
  simp -dsimp (disch:=first | assumption | omega | (simp only [Ac];try omega)) only [↓Ag,Ae,Ai,Ah,eq_self,Nat.reduceEqDiff,↓reduceIte,reduceCtorEq,h0,↓Kr]
  refine h7 other ho 1 _ ?_ _ ?_ ?_ ?_<;>rfl
 obtain ⟨pk,rfl⟩:=Int.eq_ofNat_of_zero_le hpk
 have hml:pk % trees.length<trees.length:=Nat.mod_lt _ h0
 have hg:trees[pk % trees.length]?=some trees[pk % trees.length]:=List.getElem?_eq_getElem hml
 have hod:=hob _ (List.mem_of_getElem? hg)
 have hrem:∀ t,I9 t .rem (.int .i64 (pk:Int)) (.int .i64 (trees.length:Int))=some (.int .i64 ((pk % trees.length:Nat):Int)):=fun t=>BiU (by omega)
 generalize trees[pk % trees.length]=ob at *
 have hid:=Bo6 ob.kind ob.data hod
 simp -dsimp (disch:=first | assumption | omega | (simp only [Ac];try omega)) only [↓Ag,Ae,Ai,Ah,eq_self,Nat.reduceEqDiff,↓reduceIte,Nat.reduceAdd,reduceCtorEq,h0,hrem,hg,↓Kr,↓Abs]
 refine Js (hid.pure.calls rfl fun r hr => ?_)
 cases he:Af0 ob.kind ob.data with
 | error c =>
  rw [hr.2 c he]
  have hz20:((List.replicate 20 (0:UInt8)).map by8).length=20:=by simp
  simp -dsimp (disch:=first | assumption | omega | (simp only [Ac];try omega)) only [↓Ag,Ae,Ai,Ah,eq_self,Nat.reduceEqDiff,↓reduceIte,Nat.reduceAdd,reduceCtorEq]
  refine h7 (List.replicate 20 0) (by simp) 1 _ ?_ _ ?_ ?_ ?_<;>rfl
 | ok b =>
  rw [hr.1 b he]
  have hsl:((sha b).map by8).length=20:=by rw [List.length_map]; exact JC b
  simp -dsimp (disch:=first | assumption | omega | (simp only [Ac];try omega)) only [↓Ag,Ae,Ai,Ah,eq_self,Nat.reduceEqDiff,↓reduceIte,Nat.reduceAdd,reduceCtorEq]
  refine h7 (sha b) (JC b) 1 _ ?_ _ ?_ ?_ ?_<;>rfl
end
section
open Go.RowKit
variable [AL]
set_option maxRecDepth 100000 in
theorem ArG {t:TypeId} (ht:Tryz.prog.underlying t=some (.array 20 5)) (hn:Tryz.prog.cellsOf t=20):Ux Tryz.prog t (fun l:List UInt8 => .arr 20 1 (l.map by8)) (fun l=>l.length=20) :=
 UZ (AoO ht (k:=1) (by kernel_rfl) (by rw [hn]) (Anx Tryz.underlying5) (fun _ _=>rfl)) fun l h=>⟨l,rfl,h.1⟩
set_option maxRecDepth 100000 in
theorem ArH:Ux Tryz.prog 28 (fun o:ObD=>obT o) (fun o=>(-9223372036854775808≤o.kind∧o.kind≤9223372036854775807)∧o.data.length≤140737488351232):=by
 refine UZ (Ama Tryz.underlying28 (by kernel_rfl) (AiI (off:=0) (n:=1) rfl (by kernel_rfl) (Al3 Tryz.underlying25) (AiI (off:=1) (n:=1) rfl (by kernel_rfl)
  (AoL Tryz.underlying26 Tryz.underlying5 (by kernel_rfl) (by kernel_rfl)) Ao5))) fun x h => ?_
 obtain ⟨k,d,u⟩:=x
 exact ⟨⟨k,d⟩,rfl,h.1,h.2.1⟩
set_option maxRecDepth 100000 in
theorem Aqa:Ux Tryz.prog 22 (fun l:List ObD => .sl 2 (l.map obT)) (fun l=>∀ o∈l,(-9223372036854775808≤o.kind∧o.kind≤9223372036854775807)∧o.data.length≤140737488351232) :=
 UZ (AiF (k:=2) (B:=Tryz.prog.bytesOf 28) Tryz.underlying22 (by kernel_rfl) rfl ArH (fun a _=>rfl) (by decide)) fun l h=>⟨l,rfl,h.1⟩
end
end Go.Proofs.YtnkpoloeifhflaaGreatDoor
namespace Go.Proofs.YtnkpoloeifhflaaGreatDoor.stageFlats
open Go.ChangeShapes Go.WideShapes Go.ChangeAt Go.RowKit
theorem own:ownKnob Tryz.prog.godebug=none:=by kernel_rfl
abbrev giM (t0:TypeId) (a0:Addr) (t1:TypeId) (a1:Addr):AL:=⟨[(0,Hf),(8,BF),(9,BG),(5,AO),(1,BH),(4,GV.one (.iface t0 (.pointer (some a0)))),(3,GV.one (.iface t1 (.pointer (some a1))))],by kernel_rfl⟩
theorem Af8 (t0:TypeId) (a0:Addr) (t1:TypeId) (a1:Addr):@CX (giM t0 a0 t1 a1):=@CX.mk (giM t0 a0 t1 a1) (by kernel_rfl)
theorem WX (t0:TypeId) (a0:Addr) (t1:TypeId) (a1:Addr):@Iw (giM t0 a0 t1 a1):=@Iw.mk (giM t0 a0 t1 a1) (by kernel_rfl)
theorem WY (t0:TypeId) (a0:Addr) (t1:TypeId) (a1:Addr):@Ej (giM t0 a0 t1 a1):=@Ej.mk (giM t0 a0 t1 a1) (by kernel_rfl)
theorem SS (t0:TypeId) (a0:Addr) (t1:TypeId) (a1:Addr):@Ar (giM t0 a0 t1 a1):=@Ar.mk (giM t0 a0 t1 a1) (by kernel_rfl)
theorem AbA (t0:TypeId) (a0:Addr) (t1:TypeId) (a1:Addr):@AB (giM t0 a0 t1 a1):=@AB.mk (giM t0 a0 t1 a1) (by kernel_rfl)
theorem AgQ (t0:TypeId) (a0:Addr) (t1:TypeId) (a1:Addr):@BB (giM t0 a0 t1 a1):=@BB.mk (giM t0 a0 t1 a1) ⟨t0,a0,by kernel_rfl⟩
theorem Ae0 (t0:TypeId) (a0:Addr) (t1:TypeId) (a1:Addr):@Be (giM t0 a0 t1 a1):=@Be.mk (giM t0 a0 t1 a1) ⟨t1,a1,by kernel_rfl⟩
theorem et:Tryz.prog.globalNamed "errors.errorType" = some 0:=by kernel_rfl
theorem rt:(Tryz.prog.cutTypes.find? (·.1 == "internal/reflectlite.rtype")).map (·.2)=some 156:=by kernel_rfl
theorem BnT:((List.range Tryz.prog.types.size).filter fun t=>Tryz.prog.rowNamed t [101,114,114,111,114])=[38]:=by kernel_rfl
theorem Ak0 {W:World} (h:handlesMet Tryz.prog [("errors.errorType", Rows.laid_errors_errorType)] W):∃ t fr,W.heap[0]?=some (.cells Hf.cells.toArray t fr):=by
 obtain ⟨name,u,ty,e1,e2,e3,e4,e5⟩:=h _ (List.mem_singleton.2 rfl)
 have en:name=[101,114,114,111,114]:=(Option.some.inj e1).symm
 subst en
 obtain rfl:=Option.some.inj (rt.symm.trans e2)
 have hm:ty∈(List.range Tryz.prog.types.size).filter fun t=>Tryz.prog.rowNamed t [101,114,114,111,114]:=List.mem_filter.2 ⟨List.mem_range.2 e3,e4⟩
 rw [BnT] at hm
 obtain rfl:=List.mem_singleton.1 hm
 have hh:typeHandle Tryz.prog 38 = .pointer (some ⟨10,38,none⟩):=by kernel_rfl
 rw [hh] at e5
 exact AmN et e5
def V6:List (DataW Unit):=[.lit (.int .u8 0),.lit (.int .u8 1),.lit (.int .u8 28),.lit (.int .u8 2),.lit (.int .u8 29),.lit (.int .u8 14),.lit (.int .u8 24),.lit (.int .u8 3),.lit (.int .u8 30),.lit (.int .u8 22),.lit (.int .u8 20),.lit (.int .u8 15),.lit (.int .u8 25),.lit (.int .u8 17),.lit (.int .u8 4),.lit (.int .u8 8),.lit (.int .u8 31),.lit (.int .u8 27),.lit (.int .u8 13),.lit (.int .u8 23),.lit (.int .u8 21),.lit (.int .u8 19),.lit (.int .u8 16),.lit (.int .u8 7),.lit (.int .u8 26),.lit (.int .u8 12),.lit (.int .u8 18),.lit (.int .u8 6),.lit (.int .u8 11),.lit (.int .u8 5),.lit (.int .u8 10),.lit (.int .u8 9)]
theorem V3 {W:World} (h:laidMet Tryz.prog [("math/bits.deBruijn32tab", Rows.laid_math_bits_deBruijn32tab),("math/bits.deBruijn64tab", Rows.laid_math_bits_deBruijn64tab),("internal/strconv.uint64pow10", Rows.laid_internal_strconv_uint64pow10),("strconv.ErrRange", Rows.laid_strconv_ErrRange),("strconv.ErrSyntax", Rows.laid_strconv_ErrSyntax),("gitlike/object.kinds", Rows.laid_gitlike_object_kinds)] W):∃ t fr,W.heap[8]?=some (.cells BF.cells.toArray t fr) :=
 AjJ (t:=(Tryz.prog.globals[8]?).elim 0 (·.type)) (e:=match Tryz.prog.underlying ((Tryz.prog.globals[8]?).elim 0 (·.type)) with | some (.array _ e)=>e | _=>0) (n:=BF.cells.length) h (List.mem_of_getElem? (i:=0) (show [("math/bits.deBruijn32tab", Rows.laid_math_bits_deBruijn32tab),("math/bits.deBruijn64tab", Rows.laid_math_bits_deBruijn64tab),("internal/strconv.uint64pow10", Rows.laid_internal_strconv_uint64pow10),("strconv.ErrRange", Rows.laid_strconv_ErrRange),("strconv.ErrSyntax", Rows.laid_strconv_ErrSyntax),("gitlike/object.kinds", Rows.laid_gitlike_object_kinds)][0]?=some ("math/bits.deBruijn32tab", DataW.agg V6) by kernel_rfl)) (by kernel_rfl) (by kernel_rfl) (by kernel_rfl) (by kernel_rfl) (by kernel_rfl) (by kernel_rfl) (by kernel_rfl)
def VX:List (DataW Unit):=[.lit (.int .u8 0),.lit (.int .u8 1),.lit (.int .u8 56),.lit (.int .u8 2),.lit (.int .u8 57),.lit (.int .u8 49),.lit (.int .u8 28),.lit (.int .u8 3),.lit (.int .u8 61),.lit (.int .u8 58),.lit (.int .u8 42),.lit (.int .u8 50),.lit (.int .u8 38),.lit (.int .u8 29),.lit (.int .u8 17),.lit (.int .u8 4),.lit (.int .u8 62),.lit (.int .u8 47),.lit (.int .u8 59),.lit (.int .u8 36),.lit (.int .u8 45),.lit (.int .u8 43),.lit (.int .u8 51),.lit (.int .u8 22),.lit (.int .u8 53),.lit (.int .u8 39),.lit (.int .u8 33),.lit (.int .u8 30),.lit (.int .u8 24),.lit (.int .u8 18),.lit (.int .u8 12),.lit (.int .u8 5),.lit (.int .u8 63),.lit (.int .u8 55),.lit (.int .u8 48),.lit (.int .u8 27),.lit (.int .u8 60),.lit (.int .u8 41),.lit (.int .u8 37),.lit (.int .u8 16),.lit (.int .u8 46),.lit (.int .u8 35),.lit (.int .u8 44),.lit (.int .u8 21),.lit (.int .u8 52),.lit (.int .u8 32),.lit (.int .u8 23),.lit (.int .u8 11),.lit (.int .u8 54),.lit (.int .u8 26),.lit (.int .u8 40),.lit (.int .u8 15),.lit (.int .u8 34),.lit (.int .u8 20),.lit (.int .u8 31),.lit (.int .u8 10),.lit (.int .u8 25),.lit (.int .u8 14),.lit (.int .u8 19),.lit (.int .u8 9),.lit (.int .u8 13),.lit (.int .u8 8),.lit (.int .u8 7),.lit (.int .u8 6)]
theorem VW {W:World} (h:laidMet Tryz.prog [("math/bits.deBruijn32tab", Rows.laid_math_bits_deBruijn32tab),("math/bits.deBruijn64tab", Rows.laid_math_bits_deBruijn64tab),("internal/strconv.uint64pow10", Rows.laid_internal_strconv_uint64pow10),("strconv.ErrRange", Rows.laid_strconv_ErrRange),("strconv.ErrSyntax", Rows.laid_strconv_ErrSyntax),("gitlike/object.kinds", Rows.laid_gitlike_object_kinds)] W):∃ t fr,W.heap[9]?=some (.cells BG.cells.toArray t fr) :=
 AjJ (t:=(Tryz.prog.globals[9]?).elim 0 (·.type)) (e:=match Tryz.prog.underlying ((Tryz.prog.globals[9]?).elim 0 (·.type)) with | some (.array _ e)=>e | _=>0) (n:=BG.cells.length) h (List.mem_of_getElem? (i:=1) (show [("math/bits.deBruijn32tab", Rows.laid_math_bits_deBruijn32tab),("math/bits.deBruijn64tab", Rows.laid_math_bits_deBruijn64tab),("internal/strconv.uint64pow10", Rows.laid_internal_strconv_uint64pow10),("strconv.ErrRange", Rows.laid_strconv_ErrRange),("strconv.ErrSyntax", Rows.laid_strconv_ErrSyntax),("gitlike/object.kinds", Rows.laid_gitlike_object_kinds)][1]?=some ("math/bits.deBruijn64tab", DataW.agg VX) by kernel_rfl)) (by kernel_rfl) (by kernel_rfl) (by kernel_rfl) (by kernel_rfl) (by kernel_rfl) (by kernel_rfl) (by kernel_rfl)
def RJ:List (DataW Unit):=[.lit (.int .u64 1),.lit (.int .u64 10),.lit (.int .u64 100),.lit (.int .u64 1000),.lit (.int .u64 10000),.lit (.int .u64 100000),.lit (.int .u64 1000000),.lit (.int .u64 10000000),.lit (.int .u64 100000000),.lit (.int .u64 1000000000),.lit (.int .u64 10000000000),.lit (.int .u64 100000000000),.lit (.int .u64 1000000000000),.lit (.int .u64 10000000000000),.lit (.int .u64 100000000000000),.lit (.int .u64 1000000000000000),.lit (.int .u64 10000000000000000),.lit (.int .u64 100000000000000000),.lit (.int .u64 1000000000000000000),.lit (.int .u64 10000000000000000000)]
theorem RI {W:World} (h:laidMet Tryz.prog [("math/bits.deBruijn32tab", Rows.laid_math_bits_deBruijn32tab),("math/bits.deBruijn64tab", Rows.laid_math_bits_deBruijn64tab),("internal/strconv.uint64pow10", Rows.laid_internal_strconv_uint64pow10),("strconv.ErrRange", Rows.laid_strconv_ErrRange),("strconv.ErrSyntax", Rows.laid_strconv_ErrSyntax),("gitlike/object.kinds", Rows.laid_gitlike_object_kinds)] W):∃ t fr,W.heap[5]?=some (.cells AO.cells.toArray t fr) :=
 AjJ (t:=(Tryz.prog.globals[5]?).elim 0 (·.type)) (e:=match Tryz.prog.underlying ((Tryz.prog.globals[5]?).elim 0 (·.type)) with | some (.array _ e)=>e | _=>0) (n:=AO.cells.length) h (List.mem_of_getElem? (i:=2) (show [("math/bits.deBruijn32tab", Rows.laid_math_bits_deBruijn32tab),("math/bits.deBruijn64tab", Rows.laid_math_bits_deBruijn64tab),("internal/strconv.uint64pow10", Rows.laid_internal_strconv_uint64pow10),("strconv.ErrRange", Rows.laid_strconv_ErrRange),("strconv.ErrSyntax", Rows.laid_strconv_ErrSyntax),("gitlike/object.kinds", Rows.laid_gitlike_object_kinds)][2]?=some ("internal/strconv.uint64pow10", DataW.agg RJ) by kernel_rfl)) (by kernel_rfl) (by kernel_rfl) (by kernel_rfl) (by kernel_rfl) (by kernel_rfl) (by kernel_rfl) (by kernel_rfl)
def Aaq:List (DataW Unit):=[.lit (.string []),.lit (.string [99,111,109,109,105,116]),.lit (.string [116,114,101,101]),.lit (.string [98,108,111,98]),.lit (.string [116,97,103])]
theorem Aat {W:World} (h:laidMet Tryz.prog [("math/bits.deBruijn32tab", Rows.laid_math_bits_deBruijn32tab),("math/bits.deBruijn64tab", Rows.laid_math_bits_deBruijn64tab),("internal/strconv.uint64pow10", Rows.laid_internal_strconv_uint64pow10),("strconv.ErrRange", Rows.laid_strconv_ErrRange),("strconv.ErrSyntax", Rows.laid_strconv_ErrSyntax),("gitlike/object.kinds", Rows.laid_gitlike_object_kinds)] W):∃ t fr,W.heap[1]?=some (.cells BH.cells.toArray t fr) :=
 AjJ (t:=(Tryz.prog.globals[1]?).elim 0 (·.type)) (e:=match Tryz.prog.underlying ((Tryz.prog.globals[1]?).elim 0 (·.type)) with | some (.array _ e)=>e | _=>0) (n:=BH.cells.length) h (List.mem_of_getElem? (i:=5) (show [("math/bits.deBruijn32tab", Rows.laid_math_bits_deBruijn32tab),("math/bits.deBruijn64tab", Rows.laid_math_bits_deBruijn64tab),("internal/strconv.uint64pow10", Rows.laid_internal_strconv_uint64pow10),("strconv.ErrRange", Rows.laid_strconv_ErrRange),("strconv.ErrSyntax", Rows.laid_strconv_ErrSyntax),("gitlike/object.kinds", Rows.laid_gitlike_object_kinds)][5]?=some ("gitlike/object.kinds", DataW.agg Aaq) by kernel_rfl)) (by kernel_rfl) (by kernel_rfl) (by kernel_rfl) (by kernel_rfl) (by kernel_rfl) (by kernel_rfl) (by kernel_rfl)
theorem BsR : "*" ++ "errors.errorString" = "*errors.errorString" := by decide
theorem Bi9 (u:TypeId) (h:Tryz.prog.typeName? 3 u=some "*errors.errorString"):u=225 :=
 typeName_ptr_named (nm := "errors.errorString") (by rw [BsR]; kernel_rfl) (by kernel_rfl) (by decide) u (by rw [BsR]; exact h)
theorem AdF {W:World} (h:laidMet Tryz.prog [("math/bits.deBruijn32tab", Rows.laid_math_bits_deBruijn32tab),("math/bits.deBruijn64tab", Rows.laid_math_bits_deBruijn64tab),("internal/strconv.uint64pow10", Rows.laid_internal_strconv_uint64pow10),("strconv.ErrRange", Rows.laid_strconv_ErrRange),("strconv.ErrSyntax", Rows.laid_strconv_ErrSyntax),("gitlike/object.kinds", Rows.laid_gitlike_object_kinds)] W):∃ (a:Addr) (t:TypeId) (fr:Nat×Nat),W.heap[4]?=some (.cells #[.iface 225 (.pointer (some a))] t fr):=by
 have h2:laidMet Tryz.prog (("strconv.ErrRange", DataW.iface "*errors.errorString" (.ptr (.agg [.lit (.string [118,97,108,117,101,32,111,117,116,32,111,102,32,114,97,110,103,101])])))::[("strconv.ErrSyntax", Rows.laid_strconv_ErrSyntax),("gitlike/object.kinds", Rows.laid_gitlike_object_kinds)]) W:=h.tail.tail.tail
 have hg:Tryz.prog.globalNamed "strconv.ErrRange" = some 4:=by kernel_rfl
 obtain ⟨a,s,hv,_⟩:=laid_sentinel h2 hg (show (Tryz.prog.globals[4]?).map (·.type)=some 38 by kernel_rfl) Tryz.underlying38 Bi9 Tryz.underlying225 Tryz.underlying227 rfl rfl Tryz.underlying9 (by kernel_rfl) (by kernel_rfl)
 exact ⟨a,AmN hg hv⟩
theorem AbT {W:World} (h:laidMet Tryz.prog [("math/bits.deBruijn32tab", Rows.laid_math_bits_deBruijn32tab),("math/bits.deBruijn64tab", Rows.laid_math_bits_deBruijn64tab),("internal/strconv.uint64pow10", Rows.laid_internal_strconv_uint64pow10),("strconv.ErrRange", Rows.laid_strconv_ErrRange),("strconv.ErrSyntax", Rows.laid_strconv_ErrSyntax),("gitlike/object.kinds", Rows.laid_gitlike_object_kinds)] W):∃ (a:Addr) (t:TypeId) (fr:Nat×Nat),W.heap[3]?=some (.cells #[.iface 225 (.pointer (some a))] t fr):=by
 have h2:laidMet Tryz.prog (("strconv.ErrSyntax", DataW.iface "*errors.errorString" (.ptr (.agg [.lit (.string [105,110,118,97,108,105,100,32,115,121,110,116,97,120])])))::[("gitlike/object.kinds", Rows.laid_gitlike_object_kinds)]) W:=h.tail.tail.tail.tail
 have hg:Tryz.prog.globalNamed "strconv.ErrSyntax" = some 3:=by kernel_rfl
 obtain ⟨a,s,hv,_⟩:=laid_sentinel h2 hg (show (Tryz.prog.globals[3]?).map (·.type)=some 38 by kernel_rfl) Tryz.underlying38 Bi9 Tryz.underlying225 Tryz.underlying227 rfl rfl Tryz.underlying9 (by kernel_rfl) (by kernel_rfl)
 exact ⟨a,AmN hg hv⟩
theorem AnL {W:World} (h:laidMetH Tryz.prog Rows.stageFlatsRow.laid W):∃ t0 a0 t1 a1,@QX (giM t0 a0 t1 a1) (fun b=>b<W.heap.size) W:=by
 have h':laidMet Tryz.prog [("math/bits.deBruijn32tab", Rows.laid_math_bits_deBruijn32tab),("math/bits.deBruijn64tab", Rows.laid_math_bits_deBruijn64tab),("internal/strconv.uint64pow10", Rows.laid_internal_strconv_uint64pow10),("strconv.ErrRange", Rows.laid_strconv_ErrRange),("strconv.ErrSyntax", Rows.laid_strconv_ErrSyntax),("gitlike/object.kinds", Rows.laid_gitlike_object_kinds)] W∧handlesMet Tryz.prog [("errors.errorType", Rows.laid_errors_errorType)] W:=h
 obtain ⟨a0,e0⟩:=AdF h'.1
 obtain ⟨a1,e1⟩:=AbT h'.1
 refine ⟨225,a0,225,a1,?_⟩
 letI:=giM 225 a0 225 a1
 intro g x hx
 have hm:=Asi hx
 have hm':(g,x)∈([(0,Hf),(8,BF),(9,BG),(5,AO),(1,BH),(4,GV.one (.iface 225 (.pointer (some a0)))),(3,GV.one (.iface 225 (.pointer (some a1))))]:List (Nat×GV)):=hm
 simp only [List.mem_cons,List.mem_nil_iff,or_false,Prod.mk.injEq] at hm'
 have key:∃ t fr,W.heap[g]?=some (.cells x.cells.toArray t fr):=by
  rcases hm' with ⟨rfl,rfl⟩ | ⟨rfl,rfl⟩ | ⟨rfl,rfl⟩ | ⟨rfl,rfl⟩ | ⟨rfl,rfl⟩ | ⟨rfl,rfl⟩ | ⟨rfl,rfl⟩
  ·exact Ak0 h'.2
  ·exact V3 h'.1
  ·exact VW h'.1
  ·exact RI h'.1
  ·exact Aat h'.1
  ·exact e0
  ·exact e1
 obtain ⟨t,fr,hk⟩:=key
 exact ⟨(Array.getElem?_eq_some_iff.1 hk).1,t,fr,hk⟩
noncomputable def Aod (os:Os):World :=
 let w0:=World.holding Tryz.prog os ⟨#[],#[.slice none 0 0,.int .i64 0,.agg #[.int .u8 0,.int .u8 0,.int .u8 0,.int .u8 0,.int .u8 0,.int .u8 0,.int .u8 0,.int .u8 0,.int .u8 0,.int .u8 0,.int .u8 0,.int .u8 0,.int .u8 0,.int .u8 0,.int .u8 0,.int .u8 0,.int .u8 0,.int .u8 0,.int .u8 0,.int .u8 0]],[]⟩
 let w1:={ w0 with heap:=w0.heap.modify 0 fun
   | .cells _ t frozen => .cells Hf.cells.toArray t frozen
   | o=>o }
 let w2:={ w1 with heap:=w1.heap.modify 8 fun
   | .cells _ t frozen => .cells BF.cells.toArray t frozen
   | o=>o }
 let w3:={ w2 with heap:=w2.heap.modify 9 fun
   | .cells _ t frozen => .cells BG.cells.toArray t frozen
   | o=>o }
 let w4:={ w3 with heap:=w3.heap.modify 5 fun
   | .cells _ t frozen => .cells AO.cells.toArray t frozen
   | o=>o }
 let w5:={ w4 with heap:=w4.heap.modify 1 fun
   | .cells _ t frozen => .cells BH.cells.toArray t frozen
   | o=>o }
 let w6:={ w5 with heap:=(w5.heap.push (.cells #[.string ⟨([118,97,108,117,101,32,111,117,116,32,111,102,32,114,97,110,103,101]:List UInt8).toArray⟩] 227 (0,0))).modify 4 fun
   | .cells _ t frozen => .cells #[.iface 225 (.pointer (some ⟨w5.heap.size,0,none⟩))] t frozen
   | o=>o }
 let w7:={ w6 with heap:=(w6.heap.push (.cells #[.string ⟨([105,110,118,97,108,105,100,32,115,121,110,116,97,120]:List UInt8).toArray⟩] 227 (0,0))).modify 3 fun
   | .cells _ t frozen => .cells #[.iface 225 (.pointer (some ⟨w6.heap.size,0,none⟩))] t frozen
   | o=>o }
 w7
theorem AmQ (os:Os) (args:Array Value):laidMetH Tryz.prog Rows.stageFlatsRow.laid ((Aod os).forCall (fun _ _=>0) ⟨#[],args,[]⟩).memory :=
 laidMetH_of_parts (laidMet_of_run' 8 (by kernel_rfl) (by kernel_rfl)) (by kernel_rfl)
theorem Bks:laidOutB Tryz.prog=true∧mapsRowed Tryz.prog=true :=
 have H:=ClosedOfChecked.allSpec_of Tryz.checked.wellFormed (by kernel_rfl:Tryz.checked.prog.types=Tryz.checked.src.types)
 ⟨ClosedOfChecked.laidOutB_of H (by kernel_rfl),ClosedOfChecked.mapsRowed_of H⟩
theorem NT {a b:Bool} (h:a=true) (k:b=true):(a && b)=true:=by rw [h,k]; rfl
theorem Bqm:(Rows.stageFlatsRow.wf (OpenSpec.ofChange Rows.stageFlatsSpec))=true:=by kernel_rfl
theorem BpP:(laidOutB Tryz.prog)=true:=Bks.1
theorem BqX:(mapsRowed Tryz.prog)=true:=Bks.2
theorem BrE:(Tryz.f3.params.all (Tryz.prog.readableRec ·))=true:=by kernel_rfl
theorem BpE:(namedTie Tryz.prog Rows.stageFlatsRow.named Rows.stageFlatsSpec.vars)=true:=by kernel_rfl
theorem BpQ:((Rows.stageFlatsRow.stops == []))=true:=by kernel_rfl
theorem BpJ:((Tryz.prog.stops == []))=true:=by kernel_rfl
theorem BqA:((Rows.stageFlatsRow.knobs == []))=true:=by kernel_rfl
theorem BqN:((Tryz.prog.stopKnobs == []))=true:=by kernel_rfl
theorem Bp3:((Rows.stageFlatsRow.inPlace == Tryz.prog.inPlace 3))=true:=by kernel_rfl
theorem BoI:((Rows.stageFlatsRow.unfollowed == Tryz.prog.unfollowed 3))=true:=by kernel_rfl
theorem Bm3:((Rows.stageFlatsRow.recurses == Tryz.prog.recurses 3))=true:=by kernel_rfl
theorem BoO:((Rows.stageFlatsRow.named == Tryz.prog.varsNamed 3))=true:=by kernel_rfl
theorem Bm0:((Rows.stageFlatsRow.maps == (Tryz.f3.params.toList++Rows.stageFlatsSpec.plain.varTypes Tryz.prog).any (Tryz.prog.mapsRec ·)))=true:=by kernel_rfl
theorem BnN:((Rows.stageFlatsRow.ifaces == (Tryz.f3.params.toList++Rows.stageFlatsSpec.plain.varTypes Tryz.prog).any (Tryz.prog.ifacesRec ·)))=true:=by kernel_rfl
theorem Bmk:((Rows.stageFlatsRow.mapsOut == Tryz.prog.mapsAmong Tryz.f3.resultTypes.toList))=true:=by kernel_rfl
theorem BoV:((Rows.stageFlatsRow.loops == (Tryz.f3.params.toList++Rows.stageFlatsSpec.plain.varTypes Tryz.prog).any (Tryz.prog.loopsFrom ·)))=true:=by kernel_rfl
theorem BoA:((Rows.stageFlatsRow.wideKeys == (Tryz.f3.params.toList++Rows.stageFlatsSpec.plain.varTypes Tryz.prog++Tryz.f3.resultTypes.toList).any (Tryz.prog.wideKeysFrom ·)))=true:=by kernel_rfl
theorem Bor:(Rows.stageFlatsSpec.vars.all (Tryz.prog.varReadable ·))=true:=by kernel_rfl
theorem BnM:(Tryz.f3.resultTypes.all (fun t=>Tryz.prog.readableRec t && decide (t<Tryz.prog.types.size)))=true:=by kernel_rfl
theorem Bn3:((Rows.stageFlatsRow.ifacesOut == Tryz.f3.resultTypes.toList.any (Tryz.prog.ifacesRec ·)))=true:=by kernel_rfl
theorem Boo:((Rows.stageFlatsRow.loopsOut == Tryz.f3.resultTypes.toList.any (Tryz.prog.loopsFrom ·)))=true:=by kernel_rfl
theorem Boj:((Rows.stageFlatsRow.plainKeys == Tryz.prog.plainKeys))=true:=by kernel_rfl
theorem Bmy:(Rows.stageFlatsRow.shortTexts.isNone)=true:=by kernel_rfl
theorem Bna:(Tryz.prog.stopsHeard)=true:=by kernel_rfl
theorem Bof:(Tryz.prog.mayEnter)=true:=by kernel_rfl
theorem Bok:((Rows.stageFlatsRow.lifted == Tryz.prog.liftsFinal))=true:=by kernel_rfl
theorem BmM:((Tryz.prog.make == some Rows.stageFlatsRow.make))=true:=by kernel_rfl
theorem Boq:((Rows.stageFlatsRow.kinds == (if Rows.stageFlatsRow.domain.isEmpty then [] else Tryz.f3.params.toList.map fun t=>match Tryz.prog.underlying t with | some (.int k)=>some k | _=>none)))=true:=by kernel_rfl
theorem Bma:((Rows.stageFlatsRow.pinned == Rows.stageFlatsRow.pinnedBy))=true:=by kernel_rfl
theorem Bmx:((Rows.stageFlatsRow.veiled == (Tryz.f3.params.toList++Rows.stageFlatsSpec.plain.varTypes Tryz.prog++Tryz.f3.resultTypes.toList).any (Tryz.prog.veiledRec ·)))=true:=by kernel_rfl
theorem Bm4:(Rows.stageFlatsRow.veiledFits Tryz.prog Tryz.f3.params.toList (Tryz.f3.params.toList++Rows.stageFlatsSpec.plain.varTypes Tryz.prog++Tryz.f3.resultTypes.toList))=true:=by kernel_rfl
set_option maxRecDepth 100000 in
theorem Bgq:((Rows.stageFlatsRow.wf (OpenSpec.ofChange Rows.stageFlatsSpec)) && (laidOutB Tryz.prog) && (mapsRowed Tryz.prog) && (Tryz.f3.params.all (Tryz.prog.readableRec ·)) && (namedTie Tryz.prog Rows.stageFlatsRow.named Rows.stageFlatsSpec.vars) && ((Rows.stageFlatsRow.stops == [])) && ((Tryz.prog.stops == [])) && ((Rows.stageFlatsRow.knobs == [])) && ((Tryz.prog.stopKnobs == [])) && ((Rows.stageFlatsRow.inPlace == Tryz.prog.inPlace 3)) && ((Rows.stageFlatsRow.unfollowed == Tryz.prog.unfollowed 3)) && ((Rows.stageFlatsRow.recurses == Tryz.prog.recurses 3)) && ((Rows.stageFlatsRow.named == Tryz.prog.varsNamed 3)) && ((Rows.stageFlatsRow.maps == (Tryz.f3.params.toList++Rows.stageFlatsSpec.plain.varTypes Tryz.prog).any (Tryz.prog.mapsRec ·))) && ((Rows.stageFlatsRow.ifaces == (Tryz.f3.params.toList++Rows.stageFlatsSpec.plain.varTypes Tryz.prog).any (Tryz.prog.ifacesRec ·))) && ((Rows.stageFlatsRow.mapsOut == Tryz.prog.mapsAmong Tryz.f3.resultTypes.toList)) && ((Rows.stageFlatsRow.loops == (Tryz.f3.params.toList++Rows.stageFlatsSpec.plain.varTypes Tryz.prog).any (Tryz.prog.loopsFrom ·))) && ((Rows.stageFlatsRow.wideKeys == (Tryz.f3.params.toList++Rows.stageFlatsSpec.plain.varTypes Tryz.prog++Tryz.f3.resultTypes.toList).any (Tryz.prog.wideKeysFrom ·))) && (Rows.stageFlatsSpec.vars.all (Tryz.prog.varReadable ·)) && (Tryz.f3.resultTypes.all (fun t=>Tryz.prog.readableRec t && decide (t<Tryz.prog.types.size))) && ((Rows.stageFlatsRow.ifacesOut == Tryz.f3.resultTypes.toList.any (Tryz.prog.ifacesRec ·))) && ((Rows.stageFlatsRow.loopsOut == Tryz.f3.resultTypes.toList.any (Tryz.prog.loopsFrom ·))) && ((Rows.stageFlatsRow.plainKeys == Tryz.prog.plainKeys)) && (Rows.stageFlatsRow.shortTexts.isNone) && (Tryz.prog.stopsHeard) && (Tryz.prog.mayEnter) && ((Rows.stageFlatsRow.lifted == Tryz.prog.liftsFinal)) && ((Tryz.prog.make == some Rows.stageFlatsRow.make)) && ((Rows.stageFlatsRow.kinds == (if Rows.stageFlatsRow.domain.isEmpty then [] else Tryz.f3.params.toList.map fun t=>match Tryz.prog.underlying t with | some (.int k)=>some k | _=>none))) && ((Rows.stageFlatsRow.pinned == Rows.stageFlatsRow.pinnedBy)) && ((Rows.stageFlatsRow.veiled == (Tryz.f3.params.toList++Rows.stageFlatsSpec.plain.varTypes Tryz.prog++Tryz.f3.resultTypes.toList).any (Tryz.prog.veiledRec ·))) && (Rows.stageFlatsRow.veiledFits Tryz.prog Tryz.f3.params.toList (Tryz.f3.params.toList++Rows.stageFlatsSpec.plain.varTypes Tryz.prog++Tryz.f3.resultTypes.toList)))=true:=(NT (NT (NT (NT (NT (NT (NT (NT (NT (NT (NT (NT (NT (NT (NT (NT (NT (NT (NT (NT (NT (NT (NT (NT (NT (NT (NT (NT (NT (NT (NT Bqm BpP) BqX) BrE) BpE) BpQ) BpJ) BqA) BqN) Bp3) BoI) Bm3) BoO) Bm0) BnN) Bmk) BoV) BoA) Bor) BnM) Bn3) Boo) Boj) Bmy) Bna) Bof) Bok) BmM) Boq) Bma) Bmx) Bm4)
set_option maxRecDepth 100000 in
theorem Aph:joinedFacts Tryz.prog 3 Tryz.f3 Rows.stageFlatsSpec Rows.stageFlatsRow=true:=Bgq
set_option maxRecDepth 100000 in
theorem lifted (os:Os) (started:os.Started) (H:Type) (enc:TypeId×Value→H) :
  ReturnsInHanded {} Tryz.checked os 3 .any (fun w args=>(Rows.stageFlatsSpec.pre enc Tryz.prog Tryz.f3 [] false w args∧laidMetH Tryz.prog Rows.stageFlatsRow.laid w)∧sizedMet enc Tryz.prog Tryz.f3 (OpenSpec.ofChange Rows.stageFlatsSpec) false w args) (Rows.stageFlatsSpec.post enc Tryz.prog Tryz.f3 false true false false):=by
 refine returnsInHanded_of_change_and (C:=Tryz.checked) (X:=fun w _=>laidMetH Tryz.prog Rows.stageFlatsRow.laid w) (fun _ _ _ hh h=>h.of_heap hh) own started (by kernel_rfl) Tryz.func3
  (ChangeSpec.witness_at (enc:=enc) (C:=Tryz.checked) (os:=os) (X:=fun w _=>laidMetH Tryz.prog Rows.stageFlatsRow.laid w) false (Aod os) #[.slice none 0 0,.int .i64 0,.agg #[.int .u8 0,.int .u8 0,.int .u8 0,.int .u8 0,.int .u8 0,.int .u8 0,.int .u8 0,.int .u8 0,.int .u8 0,.int .u8 0,.int .u8 0,.int .u8 0,.int .u8 0,.int .u8 0,.int .u8 0,.int .u8 0,.int .u8 0,.int .u8 0,.int .u8 0,.int .u8 0]] 8 rfl (by kernel_rfl) (by kernel_rfl) (by kernel_rfl) (by kernel_rfl) (by kernel_rfl) (AmQ os _)) ?_
 intro W base args ds gs before hval0 hW hcnd hsz0 hL _
 obtain ⟨t0,a0,t1,a1,hG⟩:=AnL hL
 letI:AL:=giM t0 a0 t1 a1
 haveI:CX:=Af8 t0 a0 t1 a1
 haveI:Iw:=WX t0 a0 t1 a1
 haveI:Ej:=WY t0 a0 t1 a1
 haveI:Ar:=SS t0 a0 t1 a1
 haveI:AB:=AbA t0 a0 t1 a1
 haveI:BB:=AgQ t0 a0 t1 a1
 haveI:Be:=Ae0 t0 a0 t1 a1
 have hsz:(DataW.weightsEach Tryz.prog (Tryz.f3.params.toList++Rows.stageFlatsSpec.plain.varTypes Tryz.prog) (ds++gs)).all (· ≤ reachBytes)=true:=hsz0
 have hval:∀ (j:Nat) t v,Tryz.f3.params[j]?=some t→args[j]?=some v→Value.okWide Tryz.prog W .any base t v:=hval0
 have hW':=hW
 obtain ⟨p,q,hA0,hV,rfl,hfz,hnd⟩:=hW
 have hA:DataW.TrodAll enc Tryz.prog W 0 (fun _=>true) true Tryz.f3.params.toList args.toList ds p:=hA0
 obtain ⟨rfl,rfl⟩:=trodVars_none hV
 have hsz2:(DataW.weightsEach Tryz.prog Tryz.f3.params.toList ds).all (· ≤ reachBytes)=true:=by
  have e:Tryz.f3.params.toList++Rows.stageFlatsSpec.plain.varTypes Tryz.prog=Tryz.f3.params.toList:=by simp [ChangeSpec.plain,Rows.stageFlatsSpec]; rfl
  rw [e,List.append_nil] at hsz; exact hsz
 have hA':=hA
 have hps:(Tryz.f3.params.toList.all fun t=>Tryz.prog.readableRec t && decide (t<Tryz.prog.types.size))=true:=by kernel_rfl
 have hv2:∀ (j:Nat) t v,Tryz.f3.params.toList[j]?=some t→args.toList[j]?=some v→∃ base,Value.okWide Tryz.prog W .any base t v:=fun j t v h1 h2=>⟨base,hval j t v (by rw [←Array.getElem?_toList]; exact h1) (by rw [←Array.getElem?_toList]; exact h2)⟩
 rw [Tryz.params3] at hA hsz2 hv2
 obtain ⟨dsE,hdsE⟩:∃ x,x=ds:=⟨_,rfl⟩
 refine (Bn1 (f:=3) (XC Aqa (AnY Tryz.underlying22) (fun _=>rfl) (XC (Al3 Tryz.underlying3) (Art Tryz.underlying3) (fun _=>rfl) (XC (ArG Tryz.underlying24 (by kernel_rfl)) (Aoo Tryz.underlying24) (fun _=>rfl) Amq))) (fun a h=>Am1 a.1 (fun o ho=>Nat.le_trans (h.1 o ho).2 (by decide)) (fun o ho=>(h.1 o ho).1) a.2.1 h.2.1.1 h.2.1.2 a.2.2.1 h.2.2.1) hA hv2 hsz2 (hG)).mono fun e W' ⟨he,bel⟩ => ?_
 subst he
 have hB:=Agh Bks.1 bel hps hA'
 have hAo:=hA
 obtain ⟨v0,vs0,d0,ds0,p0,q0,ha0,hd0,hp0,h0,r0⟩:=trodAll_cons hAo
 obtain ⟨v1,vs1,d1,ds1,p1,q1,ha1,hd1,hp1,h1,r1⟩:=trodAll_cons r0
 obtain ⟨v2,vs2,d2,ds2,p2,q2,ha2,hd2,hp2,h2,r2⟩:=trodAll_cons r1
 obtain ⟨hz1,hz2,hz3⟩:=trodAll_nil r2
 have hd:ds=[d0,d1,d2]:=by rw [hd0,hd1,hd2,hz2]
 subst hd
 exact ⟨_,rfl,_,_,_,[],_,[],hW',trodAll_mk1 (shut_bool Tryz.underlying4 _),hB,rfl,bel.frame _,fun h=>by cases h⟩
theorem over:Rows.stageFlatsRow.holds Tryz.pinned (OpenSpec.ofChange Rows.stageFlatsSpec) :=
 OpenClaim.holds_of_wide 3 Tryz.f3 rfl rfl rfl rfl rfl rfl rfl ⟨rfl,rfl,rfl,rfl,rfl⟩ rfl rfl rfl rfl rfl (by kernel_rfl) Tryz.func3 Aph
  (of_decide_eq_true (by kernel_rfl)) (by unfold Func.isWrapper; first | (rw [if_pos (by decide +kernel)]; kernel_rfl) | (rw [if_neg (by decide +kernel)]; exact ⟨rfl,rfl⟩))
  (fun os started H enc _=>lifted os started H enc)
theorem stands:(Tryz.f3.params.toList.all fun t => !Tryz.prog.wantsStandIn t)=true:=by kernel_rfl
theorem proved:Rows.StageFlatsCardSaid :=
 Claim7.holds_tied_plain_at .later [] [.data,.data,.data,.handle,.sentinel,.sentinel,.data] true (true, "b58f1f2753c64b7d3b204ec6672b4cfe3f59d5f802c799a0b3e7ce4143f188ef") true
  over (fun _ h=>by cases h) (by kernel_rfl) (fun _ h=>by cases h) stageFlats_row_tie rfl ⟨rfl,rfl⟩ (by kernel_rfl) rfl
  (fun f fn hf hfn=>by
   obtain rfl:f=3:=(Option.some.inj ((show Tryz.prog.funcNamed "gitlike/gitlikelaw8.StageFlats" = some 3 by kernel_rfl).symm.trans hf)).symm
   obtain rfl:fn=Tryz.f3:=(Option.some.inj (Tryz.func3.symm.trans hfn)).symm
   exact ⟨by kernel_rfl,fun j t ht=>by
    rw [←Array.getElem?_toList] at ht
    have:=List.all_eq_true.1 stands t (List.mem_of_getElem? ht)
    exact (show Tryz.prog.wantsStandIn t=false by simpa using this)⟩)
  (by kernel_rfl)
#print axioms proved
end Go.Proofs.YtnkpoloeifhflaaGreatDoor.stageFlats
