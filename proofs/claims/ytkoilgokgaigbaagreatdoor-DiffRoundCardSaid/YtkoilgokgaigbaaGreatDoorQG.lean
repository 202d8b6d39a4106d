/- DiffRoundCard: the law, proved out of contracts of the functions that it reaches (texts merged; names shortened by a program). No condition is laid on it. -/
import Derived.Test.YtkoilgokgaigbaaGreatDoorQF
import Derived.Test.YtkoilgokgaigbaaGreatDoorProg
import Derived.Test.YtkoilgokgaigbaaGreatDoorQE
import Derived.WalkKit
import Derived.Lib.Builder
import Derived.Lib.UnsafeStr
import Derived.Laws.Externs
import Derived.Shelf.RegionOpenPlain
import Derived.Shelf.Lay
import Derived.KernelRfl
import Derived.SevenTiedAt
import Derived.Test.YtkoilgokgaigbaaGreatDoorCards
import Derived.Test.YtkoilgokgaigbaaGreatDoorTie
import Derived.Test.YtkoilgokgaigbaaGreatDoorRows
import Derived.ProofKit
import Derived.OpenShut
import Derived.ShutString
import Derived.ChangeOld
import Derived.Below
import Derived.SizedLaws
import Derived.ChangeVars
import Derived.LaidLaws
import Derived.LaidHandle
import Derived.Stop.Joined
import Derived.Stop.LaidErr
import Derived.ClosedOfChecked
set_option linter.defProp false
set_option linter.unusedSectionVars false
set_option linter.unusedSimpArgs false
set_option linter.unusedVariables false
namespace Go.Proofs.YtkoilgokgaigbaaGreatDoor
section
open Go.RowKit
variable [A8]
def hkT (E:List Ed) (p:Nat×Nat):TV := .agg [i64 (cA (E.take p.1):Int),i64 (cB (E.take p.1):Int),.sl 2 ((GZ E p).map ed)]
theorem Abd {E:List Ed} {p:Nat×Nat}:hkT E p = .agg [i64 (cA (E.take p.1):Int),i64 (cB (E.take p.1):Int),.sl 2 ((GZ E p).map ed)]:=by unfold hkT; rfl
theorem Aeg {l:List Nat} {k:Nat}:l.map cl++[i64 (k:Int)]=(l++[k]).map cl:=by simp [cl]
theorem Af2:∀ (l:List Ed) (k:Nat),(chs k l).Pairwise (· < ·)
 | [],k=>by simp [chs]
 | e::l,k=>by
  rw [chs]; split
  ·exact Af2 l (k+1)
  ·exact List.pairwise_cons.2 ⟨fun y hy=>by have:=(MV _ _ _ hy).1; omega,Af2 l (k+1)⟩
theorem AbN {c x:Nat} {l:List Nat} (h:∀ y,l[0]?=some y→x+2*c+1<y):run c x l=(x,l):=by
 cases l with
 | nil=>rw [run]
 | cons y ys=>rw [run,if_neg (by have:=h y rfl; omega)]
theorem AbA {E:List Ed} {l:List Nat} {hs:List (Nat×Nat)} {c off j v v2 x last:Nat} {Q:VEx→Env→List Ob→Prop} {r:Env} (hE:E.length≤10000) (hc:c≤1000) (hl:l.length≤10000) (hhs:hs.length≤10000) (hj0:0<j) (hj:off+j≤l.length)
  (hx:l[off]?=some x) (hy:l[off+(j - 1)]?=some last) (hxl:x≤last) (hlE:last<E.length)
  (hQ:∀ o,Q .nor [(0,.sl 2 (E.map ed)),(1,i64 (c:Int)),(5,.os 3 1 (v2+1) [] 0 (hs.length+1) (hs.length+1)),(6,.os 1 0 v [] (off+j) (l.length - off - j) (l.length - off - j))]
   [.obj v (.arr l.length 1 (l.map cl)),.obj (v2+1) (.arr (hs.length+1) 3 ((hs++[(x - c,min E.length (last+1+c))]).map (hkT E))),o]) :
  vwp Tryz.prog Iz Q ((0,.sl 2 (E.map ed))::(1,i64 (c:Int))::(5,.os 3 1 v2 [] 0 hs.length hs.length)::(6,.os 1 0 v [] off (l.length - off) (l.length - off))::(9,i64 (j:Int))::r)
   [.obj v (.arr l.length 1 (l.map cl)),.obj v2 (.arr hs.length 3 (hs.map (hkT E)))]:=by
 have f1:∀ k,(E.take k).length≤100000:=fun k=>by simp; omega
 have e1:GZ E (x - c,min E.length (last+1+c))=(E.drop (x - c)).take (min E.length (last+1+c) - (x - c)):=by unfold GZ; rw [List.drop_take]
 have g1:cA (E.take (x - c))≤10000:=Nat.le_trans (Aa4 _) (by simp; omega)
 have g2:cB (E.take (x - c))≤10000:=Nat.le_trans (Abk _) (by simp; omega)
 by_cases h1:x≤c
 ·have e2:x - c=0:=by omega
  rw [e2] at e1 hQ g1 g2
  by_cases h2:last+1+c<E.length
  ·have e3:min E.length (last+1+c)=last+1+c:=by omega
   rw [e3] at e1 hQ
   simp -dsimp (disch:=first | assumption | omega | (simp only [Ah];try omega)) only [↓Ai,Ad,Ag,Af,eq_self,Nat.reduceEqDiff,↓reduceIte,reduceCtorEq,↓BB,hx,hy,Ad6,Nat.add_zero]
   refine (Xd (E.take 0) 0 0 (f1 _)).calls rfl ?_
   rintro _ rfl
   simp -dsimp (disch:=first | assumption | omega | (simp only [Ah];try omega)) only [↓Ai,Ad,Ag,Af,eq_self,Nat.reduceEqDiff,↓reduceIte,Nat.reduceAdd,reduceCtorEq,Nat.reduceLeDiff,↓BB,Nat.add_zero,Xe]
   have hq:=hQ (.obj 0 (.arr 1 3 [hkT E (0,last+1+c)]))
   simp only [List.map_append,List.map_cons,List.map_nil,Abd,e1,List.drop_zero,List.take_zero,Nat.sub_zero,List.map_take] at hq ⊢
   exact hq
  ·have e3:min E.length (last+1+c)=E.length:=by omega
   rw [e3] at e1 hQ
   simp -dsimp (disch:=first | assumption | omega | (simp only [Ah];try omega)) only [↓Ai,Ad,Ag,Af,eq_self,Nat.reduceEqDiff,↓reduceIte,reduceCtorEq,↓BB,hx,hy,Ad6,Nat.add_zero]
   refine (Xd (E.take 0) 0 0 (f1 _)).calls rfl ?_
   rintro _ rfl
   simp -dsimp (disch:=first | assumption | omega | (simp only [Ah];try omega)) only [↓Ai,Ad,Ag,Af,eq_self,Nat.reduceEqDiff,↓reduceIte,Nat.reduceAdd,reduceCtorEq,Nat.reduceLeDiff,↓BB,Nat.add_zero,Xe]
   have hq:=hQ (.obj 0 (.arr 1 3 [hkT E (0,E.length)]))
   simp only [List.map_append,List.map_cons,List.map_nil,Abd,e1,List.drop_zero,List.take_zero,Nat.sub_zero,List.take_length] at hq ⊢
   exact hq
 ·have e2:c<x:=by omega
  by_cases h2:last+1+c<E.length
  ·have e3:min E.length (last+1+c)=last+1+c:=by omega
   rw [e3] at e1 hQ
   simp -dsimp (disch:=first | assumption | omega | (simp only [Ah];try omega)) only [↓Ai,Ad,Ag,Af,eq_self,Nat.reduceEqDiff,↓reduceIte,reduceCtorEq,↓BB,hx,hy,Ad6,Nat.add_zero]
   refine (Xd (E.take (x - c)) 0 0 (f1 _)).calls rfl ?_
   rintro _ rfl
   simp -dsimp (disch:=first | assumption | omega | (simp only [Ah];try omega)) only [↓Ai,Ad,Ag,Af,eq_self,Nat.reduceEqDiff,↓reduceIte,Nat.reduceAdd,reduceCtorEq,Nat.reduceLeDiff,↓BB,Nat.add_zero,Xe]
   have hq:=hQ (.obj 0 (.arr 1 3 [hkT E ((x - c),last+1+c)]))
   simp only [List.map_append,List.map_cons,List.map_nil,Abd,e1,List.map_take,List.map_drop] at hq ⊢
   exact hq
  ·have e3:min E.length (last+1+c)=E.length:=by omega
   rw [e3] at e1 hQ
   rw [List.take_of_length_le (by simp:(E.drop (x - c)).length≤E.length - (x - c))] at e1
   simp -dsimp (disch:=first | assumption | omega | (simp only [Ah];try omega)) only [↓Ai,Ad,Ag,Af,eq_self,Nat.reduceEqDiff,↓reduceIte,reduceCtorEq,↓BB,hx,hy,Ad6,Nat.add_zero]
   refine (Xd (E.take (x - c)) 0 0 (f1 _)).calls rfl ?_
   rintro _ rfl
   simp -dsimp (disch:=first | assumption | omega | (simp only [Ah];try omega)) only [↓Ai,Ad,Ag,Af,eq_self,Nat.reduceEqDiff,↓reduceIte,Nat.reduceAdd,reduceCtorEq,Nat.reduceLeDiff,↓BB,Nat.add_zero,Xe]
   have hq:=hQ (.obj 0 (.arr 1 3 [hkT E ((x - c),E.length)]))
   simp only [List.map_append,List.map_cons,List.map_nil,Abd,e1,List.map_drop] at hq ⊢
   exact hq
theorem Apw (E:List Ed) (c:Nat) (hE:E.length≤10000) (hc:c≤1000):CE Tryz.prog 24 [.sl 2 (E.map ed),i64 (c:Int)] (fun r=>r = .sl 3 ((hks c E.length (chs 0 E)).map (hkT E))):=by
 refine Aq.toPureV (ZE (by simp) ?_)
 simp -dsimp (disch:=first | assumption | omega) only [↓Ai,Ad,Ag,Af,eq_self,Nat.reduceEqDiff,↓reduceIte,Nat.reduceAdd,reduceCtorEq,↓BB]
 refine D6 (fun q e H=>∃ (i v:Nat) (l:List Nat),q=E.length - i∧i≤E.length∧l.length≤i∧chs 0 E=l++chs i (E.drop i) ∧
  e=[(0,.sl 2 (E.map ed)),(1,i64 (c:Int)),(5,.val (.slice none 0 0)),(6,.os 1 0 v [] 0 l.length l.length),(14,.sl 2 (E.map ed)),(15,i64 (E.length:Int)),(16,i64 (i:Int))]∧H=[.obj v (.arr l.length 1 (l.map cl))]) E.length ?_ ?_
 ·exact ⟨0,0,[],rfl,by omega,by simp,rfl,rfl,rfl⟩
 ·rintro q e H ⟨i,v,l,rfl,hi,hli,hch,rfl,rfl⟩
  by_cases h:i<E.length
  ·obtain ⟨x,hx⟩:∃ x,E[i]?=some x:=⟨_,List.getElem?_eq_getElem h⟩
   by_cases h0:x.1=0
   ·simp -dsimp (disch:=first | assumption | omega | (simp only [Ah];try omega)) only [↓Ai,Ad,Ag,Af,eq_self,Nat.reduceEqDiff,↓reduceIte,Nat.reduceAdd,reduceCtorEq,↓BB,hx,Zt]
    rw [Xa hx h0] at hch
    exact CJ (E.length - (i+1)) 1 (by omega) (by simp) rfl rfl ⟨i+1,v,l,rfl,by omega,by omega,hch,rfl,rfl⟩
   ·simp -dsimp (disch:=first | assumption | omega | (simp only [Ah];try omega)) only [↓Ai,Ad,Ag,Af,eq_self,Nat.reduceEqDiff,↓reduceIte,Nat.reduceAdd,reduceCtorEq,Nat.reduceLeDiff,↓BB,hx,Zt,Xe,Aeg]
    rw [Xn hx h0] at hch
    exact CJ (E.length - (i+1)) 1 (by omega) (by simp) rfl rfl ⟨i+1,v+1,l++[i],rfl,by omega,by simp; omega,by rw [hch]; simp,by rw [List.length_append]; rfl,by rw [List.length_append]; rfl⟩
  ·obtain rfl:i=E.length:=by omega
   rw [AhF (Nat.le_refl _),List.append_nil] at hch
   simp -dsimp (disch:=first | assumption | omega | (simp only [Ah];try omega)) only [↓Ai,Ad,Ag,Af,eq_self,Nat.reduceEqDiff,↓reduceIte,reduceCtorEq,↓BB]
   have hl:=XA E 0
   have hlt:=Af2 E 0
   have hge:∀ y∈l,y<E.length:=fun y hy=>by have:=(MV E 0 y (hch▸hy)).2; omega
   rw [hch] at hl hlt ⊢
   refine D6 (fun q e H=>∃ (off v2:Nat) (hs:List (Nat×Nat)),q=l.length - off∧off≤l.length∧hs.length≤off∧hks c E.length l=hs++hks c E.length (l.drop off) ∧
    e=[(0,.sl 2 (E.map ed)),(1,i64 (c:Int)),(5,.os 3 1 v2 [] 0 hs.length hs.length),(6,.os 1 0 v [] off (l.length - off) (l.length - off))] ∧
    H=[.obj v (.arr l.length 1 (l.map cl)),.obj v2 (.arr hs.length 3 (hs.map (hkT E)))]) l.length ?_ ?_
   ·exact ⟨0,0,[],rfl,by omega,by simp,rfl,rfl,rfl⟩
   ·rintro q e H ⟨off,v2,hs,rfl,hoff,hhs,hk,rfl,rfl⟩
    by_cases h:off<l.length
    ·obtain ⟨x,hx⟩:∃ x,l[off]?=some x:=⟨_,List.getElem?_eq_getElem h⟩
     simp -dsimp (disch:=first | assumption | omega | (simp only [Ah];try omega)) only [↓Ai,Ad,Ag,Af,eq_self,Nat.reduceEqDiff,↓reduceIte,Nat.reduceAdd,reduceCtorEq,↓IY,↓Jc,↓JK]
     refine D6 (fun q e H=>∃ (j last:Nat),q=l.length - off - j∧0<j∧off+j≤l.length∧l[off+(j - 1)]?=some last∧x≤last∧run c x (l.drop (off+1))=run c last (l.drop (off+j)) ∧
      e=[(0,.sl 2 (E.map ed)),(1,i64 (c:Int)),(5,.os 3 1 v2 [] 0 hs.length hs.length),(6,.os 1 0 v [] off (l.length - off) (l.length - off)),(9,i64 (j:Int))] ∧
      H=[.obj v (.arr l.length 1 (l.map cl)),.obj v2 (.arr hs.length 3 (hs.map (hkT E)))]) (l.length - off - 1) ?_ ?_
     ·exact ⟨1,x,rfl,by omega,by omega,hx,Nat.le_refl _,rfl,rfl,rfl⟩
     ·rintro q e H ⟨j,last,rfl,hj0,hj,hlast,hxl,hrun,rfl,rfl⟩
      have hle:=hge last (List.mem_of_getElem? hlast)
      by_cases hj2:off+j<l.length
      ·obtain ⟨y,hy⟩:∃ y,l[off+j]?=some y:=⟨_,List.getElem?_eq_getElem hj2⟩
       have hly:last<y:=by
        have h1:=List.pairwise_iff_getElem.1 hlt (off+(j - 1)) (off+j) (by omega) hj2 (by omega)
        obtain ⟨_,rfl⟩:=List.getElem?_eq_some_iff.1 hlast
        obtain ⟨_,rfl⟩:=List.getElem?_eq_some_iff.1 hy
        exact h1
       have hyE:=hge y (List.mem_of_getElem? hy)
       by_cases hg:y≤last+2*c+1
       ·simp -dsimp (disch:=first | assumption | omega | (simp only [Ah];try omega)) only [↓Ai,Ad,Ag,Af,eq_self,Nat.reduceEqDiff,↓reduceIte,Nat.reduceAdd,reduceCtorEq,↓DZ,hlast,hy,Ad6]
        refine BU (l.length - off - (j+1)) (by omega) (by simp) ⟨j+1,y,rfl,by omega,by omega,by rw [Nat.add_sub_cancel]; exact hy,by omega,?_,rfl,rfl⟩
        obtain ⟨h',rfl⟩:=List.getElem?_eq_some_iff.1 hy
        rw [hrun,List.drop_eq_getElem_cons h',run,if_pos hg]; rfl
       ·have hst:run c last (l.drop (off+j))=(last,l.drop (off+j)):=AbN fun z hz=>by
         rw [List.getElem?_drop,Nat.add_zero,hy] at hz; cases hz; omega
        simp -dsimp (disch:=first | assumption | omega | (simp only [Ah];try omega)) only [↓Ai,Ad,Ag,Af,eq_self,Nat.reduceEqDiff,↓reduceIte,reduceCtorEq,↓DZ,hlast,hy,Ad6]
        refine AbA hE hc (by omega) (by omega) hj0 hj hx hlast hxl hle fun o => ?_
        have hk2:hks c E.length (l.drop off)=(x - c,min E.length (last+1+c))::hks c E.length (l.drop (off+j)):=by
         obtain ⟨h',rfl⟩:=List.getElem?_eq_some_iff.1 hx
         rw [List.drop_eq_getElem_cons h',hks,hrun,hst]
        rw [Acd]
        exact CJ (l.length - (off+j)) 2 (by omega) (by simp) rfl rfl ⟨off+j,v2+1,hs++[(x - c,min E.length (last+1+c))],rfl,hj,by simp; omega,by rw [hk,hk2]; simp,by rw [List.length_append,Nat.sub_sub]; rfl,by rw [List.length_append]; rfl⟩
      ·have hst:run c last (l.drop (off+j))=(last,l.drop (off+j)):=AbN fun z hz=>by
        rw [List.getElem?_drop,Nat.add_zero,List.getElem?_eq_none (by omega)] at hz; cases hz
       simp -dsimp (disch:=first | assumption | omega | (simp only [Ah];try omega)) only [↓Ai,Ad,Ag,Af,eq_self,Nat.reduceEqDiff,↓reduceIte,reduceCtorEq,↓DZ]
       refine AbA hE hc (by omega) (by omega) hj0 hj hx hlast hxl hle fun o => ?_
       have hk2:hks c E.length (l.drop off)=(x - c,min E.length (last+1+c))::hks c E.length (l.drop (off+j)):=by
        obtain ⟨h',rfl⟩:=List.getElem?_eq_some_iff.1 hx
        rw [List.drop_eq_getElem_cons h',hks,hrun,hst]
       rw [Acd]
       exact CJ (l.length - (off+j)) 2 (by omega) (by simp) rfl rfl ⟨off+j,v2+1,hs++[(x - c,min E.length (last+1+c))],rfl,hj,by simp; omega,by rw [hk,hk2]; simp,by rw [List.length_append,Nat.sub_sub]; rfl,by rw [List.length_append]; rfl⟩
    ·obtain rfl:off=l.length:=by omega
     rw [List.drop_length,hks,List.append_nil] at hk
     simp -dsimp (disch:=first | assumption | omega | (simp only [Ah];try omega)) only [↓Ai,Ad,Ag,Af,eq_self,Nat.reduceEqDiff,↓reduceIte,reduceCtorEq,↓BB]
     rw [hk]
end
section
open Go.RowKit
variable [A8]
theorem VD:∃ j,Tryz.prog.info? 68=some j∧j.size≠0:=by
 have h:((Tryz.prog.info? 68).map fun j=>decide (j.size≠0))=some true:=by kernel_rfl
 obtain ⟨j,h1,h2⟩:=Option.map_eq_some_iff.1 h
 exact ⟨j,h1,by simpa using h2⟩
set_option maxHeartbeats 2000000 in
set_option maxRecDepth 100000 in
theorem Yi (b o:Nat) (w:World) (h0:w.cell? ⟨b,o,none⟩=some (.pointer (some ⟨b,o,none⟩))) :
  Calls Tryz.prog 45 #[.pointer (some ⟨b,o,none⟩)] w fun e w'=>e = .returned (.tuple #[])∧w'=w:=by
 obtain ⟨j,hj,_⟩:=VD
 go_enter Tryz.func45,Tryz.ntmps45
 go_wp2
 rw [Lib.run_neq_ptr_same w _ Tryz.underlying66 hj]
 go_wp2
 go_end0
 exact ⟨rfl,rfl⟩
set_option maxHeartbeats 2000000 in
set_option maxRecDepth 100000 in
theorem Xu (b o:Nat) (T:TypeId) (m:Nat) (w:World) (h0:w.cell? ⟨b,o,none⟩=some (.pointer none)) (hsh:w.shape? b=some (T,m)) (hom:o<m) (hlies:liesAt Tryz.prog Tryz.prog.depth T (m / Tryz.prog.cellsOf T) o 68 1=true) (hfz:w.frozen? ⟨b,o,none⟩=false) :
  Calls Tryz.prog 45 #[.pointer (some ⟨b,o,none⟩)] w fun e w'=>e = .returned (.tuple #[])∧w'=w.setCell ⟨b,o,none⟩ (.pointer (some ⟨b,o,none⟩)):=by
 obtain ⟨j,hj,hj0⟩:=VD
 go_enter Tryz.func45,Tryz.ntmps45
 go_wp2
 rw [Lib.run_to_unsafe w ⟨b,o,none⟩ Tryz.underlying66 Tryz.underlying86 hj hj0 hsh hom]
 simp only [Result.andThen]
 rw [Oper.upon_value]
 go_wp2
 rw [run_callFunc_extern Tryz.func58 (by kernel_rfl) (by kernel_rfl) (by kernel_rfl) (e:=Extern.AbiNoEscape.same) (by kernel_rfl)]
 rw [Lib.run_noEscape]
 simp only [Result.andThen]
 rw [Oper.upon_value]
 go_wp2
 rw [Lib.run_from_unsafe w ⟨b,o,none⟩ Tryz.underlying86 Tryz.underlying66 hj hsh hlies]
 simp only [Result.andThen]
 rw [Oper.upon_value]
 go_wp2
 go_end0
 exact ⟨rfl,rfl⟩
end
section
open Go.RowKit
variable [A8]
theorem Adk {c:Ctx} {w:World}:Rep c w (.tup []) (.tuple #[]) := .inr ⟨[],[],rfl,rfl,by rw [Bh]⟩
theorem AlG {c:Ctx} {w:World} {id ver:Nat} {p:List (Nat×Nat)} {vs:List Value} (h:Bh c w [.op id ver p] vs):c.has id ver∧∃ b o,c.β id ver=some (b,o)∧vs=[.pointer (some ⟨b,o+BZ p,none⟩)]:=by
 obtain ⟨u,us,rfl,h1,h2⟩:=Bh.cons.1 h
 rw [Bh.nil] at h2; subst h2
 obtain ⟨g1,b,o,g2,g3⟩:=Rep.op (Or.inl h1:Rep c w (.op id ver p) u)
 exact ⟨g1,b,o,g2,by rw [g3]⟩
theorem AaD {β:Nat→Nat→Option (Nat×Nat)} {H:List Ob} {F:Nat→Prop} {w:World} (hs:Sim ⟨β,H,F⟩ w) {id ver b o:Nat} {p:List (Nat×Nat)} {x u v:TV} (ho:H[id]?=some (.obj ver x)) (hb:β id ver=some (b,o)) (hg:Eh p x=some (.agg [u,v])) (hu:Ar u=1) (hv:Ar v=1) :
  ∃ u' v',Am ⟨β,H,F⟩ w u [u']∧Am ⟨β,H,F⟩ w v [v']∧w.cell? ⟨b,o+BZ p,none⟩=some u'∧w.cell? ⟨b,o+BZ p+1,none⟩=some v':=by
 obtain ⟨us,h1,h2⟩:=Zu hs ho hb hg
 rw [Am,Ap] at h1
 obtain ⟨a,r,rfl,h3,h4⟩:=h1
 rw [Ap] at h4
 obtain ⟨a2,r2,rfl,h5,h6⟩:=h4
 rw [Ap] at h6; subst h6
 have l1:=h3.length; rw [hu] at l1
 have l2:=h5.length; rw [hv] at l2
 obtain ⟨u',rfl⟩:=List.length_eq_one_iff.1 l1
 obtain ⟨v',rfl⟩:=List.length_eq_one_iff.1 l2
 exact ⟨u',v',h3,h5,by simpa using h2 0 u' rfl,h2 1 v' rfl⟩
def Xt (id ver:Nat) (p:List (Nat×Nat)) (a:TV):Prop:=a = .val (.pointer none)∨a = .op id ver p
def Ac6 (T:TypeId) (m o:Nat):Prop:=o<m∧liesAt Tryz.prog Tryz.prog.depth T (m / Tryz.prog.cellsOf T) o 68 1=true
set_option maxRecDepth 100000 in
theorem Ad0 {id ver q m:Nat} {T:TypeId} {p:List (Nat×Nat)} {x x' a v:TV} {H:List Ob} {K:TV→List Ob→Prop} (ho:H[id]?=some (.obj ver x)) (hg:Eh p x=some (.agg [a,v])) (hv1:Ar v=1) (ha:Xt id ver p a)
  (hq:H[q]?=some (.fact id ver T m)) (hT:Ac6 T m (BZ p)) (hp1:Ie p x (.agg [.op id ver p,v])=some x') (hlv:lays v=true) (hk:K (.tup []) (H.set id (.obj ver x'))) :
  Aq Tryz.prog 45 [.op id ver p] H K:=by
 intro β F w vs hs hv
 obtain ⟨g1,b,o,hb,rfl⟩:=AlG hv
 have hb':β id ver=some (b,o):=hb
 obtain ⟨_,hfact⟩:=hs.ob q _ hq
 obtain ⟨rfl,hsh⟩:=hfact b o hb
 obtain ⟨hom,hlies⟩:=hT
 have ha1:Ar a=1:=by rcases ha with rfl | rfl<;>rfl
 obtain ⟨u',v',r1,r2,c0,c1⟩:=AaD hs ho hb hg ha1 hv1
 simp only [Nat.zero_add] at c0 c1
 have hrow:Am ⟨β,H,F⟩ w (.agg [.op id ver p,v]) [.pointer (some ⟨b,BZ p,none⟩),v']:=by
  rw [Am,Ap]
  refine ⟨[_],[v'],rfl,?_,?_⟩
  ·rw [Am]; exact ⟨g1,b,0,hb,by simp⟩
  ·rw [Ap]; exact ⟨[v'],[],rfl,r2,by rw [Ap]⟩
 obtain ⟨k1,k2,ht⟩:=hs.store ho hb hp1 hrow
 simp only [Nat.zero_add] at k1 k2 ht
 -- what Ac6 there behind
 have hsets:w.setCells b (BZ p) [.pointer (some ⟨b,BZ p,none⟩),v']=w.setCell ⟨b,BZ p,none⟩ (.pointer (some ⟨b,BZ p,none⟩)):=by
  have h1:=EP b [.pointer (some ⟨b,BZ p,none⟩)] [v'] (BZ p) w
  refine h1.trans ?_
  have hc:Ce w b (BZ p+1) [v']:=fun j u hj=>by
   cases j with
   | zero=>simp at hj; subst hj; exact c1
   | succ j=>simp at hj
  exact Ii (L9 hc (Nat.le_refl _))
 rw [hsets] at k1 k2
 rcases ha with rfl | rfl
 ·rw [Am] at r1
  have hu:u' = .pointer none:=by simpa using r1.1
  subst hu
  have hfz:w.frozen? ⟨b,BZ p,none⟩=false:=(ht 0 (by simp)).2
  have hc:=Xu b (BZ p) T m w c0 hsh hom hlies hfz
  have ea:([Value.pointer (some ⟨b,0+BZ p,none⟩)]).toArray = #[.pointer (some ⟨b,BZ p,none⟩)]:=by rw [Nat.zero_add]
  rw [ea]
  refine hc.mono ?_
  rintro e w' ⟨rfl,rfl⟩
  exact ⟨_,_,β,_,F,rfl,hk,k1,k2,Adk⟩
 ·rw [Am] at r1
  obtain ⟨_,b',o',hb2,hu⟩:=r1
  have hb2':β id ver=some (b',o'):=hb2
  rw [hb'] at hb2'; cases hb2'
  have hu:u' = .pointer (some ⟨b,BZ p,none⟩):=by simpa using hu
  subst hu
  have hc:=Yi b (BZ p) w c0
  have ea:([Value.pointer (some ⟨b,0+BZ p,none⟩)]).toArray = #[.pointer (some ⟨b,BZ p,none⟩)]:=by rw [Nat.zero_add]
  rw [ea]
  refine hc.mono ?_
  rintro e w' ⟨rfl,rfl⟩
  rw [VH c0] at k1 k2
  exact ⟨_,_,β,_,F,rfl,hk,k1,k2,Adk⟩
end
section
open Go.RowKit
variable [A8]
set_option maxHeartbeats 4000000 in
set_option maxRecDepth 100000 in
theorem XM {b o:Nat} {w W:World} {v:Value} {n:Nat} {ad q:Option Addr} {cap:Nat} {s:ByteArray} {w1 w2:World} (hv:v = .slice ad n cap) (c1:w.cell? ⟨b,o+1,none⟩=some v)
  (hSD:(Builtin.unsafeSliceData_ #[22] 102 #[v]).run Tryz.prog w.drew = .ok (.pointer q) w1) (c2:w1.cell? ⟨b,o+1,none⟩=some v)
  (hUS:(Builtin.unsafeString_ #[102,3] 9 #[.pointer q,.int .i64 n]).run Tryz.prog w1 = .ok (.string s) w2) :
  Calls Tryz.prog 26 #[.pointer (some ⟨b,o,none⟩)] w fun e w'=>e = .returned (.string s)∧w'=w2:=by
 subst hv
 have c1':w.drew.cell? ⟨b,o+1,none⟩=some (.slice ad n cap):=c1
 have mixed:Tryz.prog.follows .mixedOrders=true:=by kernel_rfl
 go_enter Tryz.func26,Tryz.ntmps26
 go_wp2
 go_region_o
 all_goals (go_wp2; go_ret; exact ⟨rfl,rfl⟩)
theorem Sim.die {β:Nat→Nat→Option (Nat×Nat)} {H:List Ob} {F:Nat→Prop} {w w':World} (hs:Sim ⟨β,H,F⟩ w) {j:Nat} {o:Ob} (ho:H[j]?=some o) (hl:o.live=true)
  (h1:w'.os=w.os) (h2:w'.tape=w.tape) (h3:w'.output=w.output) (hz:w.heap.size≤w'.heap.size) (hsh:∀ b,b<w.heap.size→w'.shape? b=w.shape? b)
  (hb:∀ b,b<w.heap.size→(∀ off,β j o.ver≠some (b,off))→w'.heap[b]?=w.heap[b]?):Sim ⟨β,H.set j (.gone o.ver),F⟩ w'∧Az ⟨β,H,F⟩ w ⟨β,H.set j (.gone o.ver),F⟩ w' :=
 hs.turnG ho hl (Nat.le_refl _) (fun _ _ _=>rfl) (fun b off e => .inl ⟨off,e⟩) h1 h2 h3 hz hsh hb fun _=>trivial
theorem AbI (w:World) (a:Addr) (n b:Nat):(w.freeze a n).shape? b=w.shape? b:=by
 unfold World.freeze
 split
 ·rfl
 ·simp only [World.shape?,Array.getElem?_modify]
  by_cases hb:a.block=b
  ·rw [if_pos hb]
   cases hh:w.heap[b]? with
   | none=>simp
   | some x=>cases x<;>simp
  ·rw [if_neg hb]
theorem Acp (w:World) (a:Addr) (n b:Nat) (h:b≠a.block):(w.freeze a n).heap[b]?=w.heap[b]?:=by
 unfold World.freeze
 split
 ·rfl
 ·simp only [Array.getElem?_modify]
  rw [if_neg (fun e=>h e.symm)]
theorem Acz (w:World) (a:Addr) (n:Nat):(w.freeze a n).heap.size=w.heap.size:=by
 unfold World.freeze
 split<;>simp
theorem Ahm (w:World) (a:Addr) (n:Nat):(w.freeze a n).os=w.os∧(w.freeze a n).tape=w.tape∧(w.freeze a n).output=w.output:=by
 unfold World.freeze
 split<;>exact ⟨rfl,rfl,rfl⟩
set_option maxRecDepth 100000 in
theorem cellsByte:Tryz.prog.cellsOf 5=1:=by kernel_rfl
set_option maxRecDepth 100000 in
theorem AlN {id ver j v cp:Nat} {p:List (Nat×Nat)} {x a:TV} {l:List UInt8} {H:List Ob} {K:TV→List Ob→Prop} (ho:H[id]?=some (.obj ver x)) (hg:Eh p x=some (.agg [a,.os 1 j v [] 0 l.length cp])) (ha:Ar a=1)
  (hj:H[j]?=some (.bld v 5 l)) (h63:l.length≤9223372036854775807) (hk:K (.val (.string (str l))) (H.set j (.gone v))):Aq Tryz.prog 26 [.op id ver p] H K:=by
 intro β F w vs hs hv
 obtain ⟨g1,b,o,hb,rfl⟩:=AlG hv
 obtain ⟨u',v',r1,r2,c0,c1⟩:=AaD hs ho hb hg ha rfl
 have hjl:j<H.length:=(List.getElem?_eq_some_iff.1 hj).1
 rw [Am] at r2
 obtain ⟨g2,r2⟩:=r2
 have ea:([Value.pointer (some ⟨b,o+BZ p,none⟩)]).toArray = #[.pointer (some ⟨b,o+BZ p,none⟩)]:=rfl
 rw [ea]
 -- what is empty
 have emp:∀ {ad q:Option Addr} {cap:Nat} {w1:World},v' = .slice ad 0 cap→l=[]→(Builtin.unsafeSliceData_ #[22] 102 #[v']).run Tryz.prog w.drew = .ok (.pointer q) w1→w1.cell? ⟨b,o+BZ p+1,none⟩=some v'→Sim ⟨β,H,F⟩ w1→Az ⟨β,H,F⟩ w ⟨β,H,F⟩ w1 →
   Calls Tryz.prog 26 #[.pointer (some ⟨b,o+BZ p,none⟩)] w fun e w'=>∃ v x β' H' F',e = .returned v∧K x H'∧Sim ⟨β',H',F'⟩ w'∧Az ⟨β,H,F⟩ w ⟨β',H',F'⟩ w'∧Rep ⟨β',H',F'⟩ w' x v:=by
  intro ad q cap w1 hv' hl hSD c2 hs1 hl1
  have hUS:=Lib.run_unsafeString_none (P:=Tryz.prog) w1 102 3 9 q
  refine (XM (W:=w) (n:=0) hv' c1 hSD c2 hUS).mono ?_
  rintro e w' ⟨rfl,rfl⟩
  obtain ⟨k1,k2⟩:=hs1.die (w':=w') hj rfl rfl rfl rfl (Nat.le_refl _) (fun _ _=>rfl) (fun _ _ _=>rfl)
  subst hl
  exact ⟨_,_,β,_,F,rfl,hk,k1,hl1.trans k2,Rep.of_val⟩
 rcases r2 with ⟨hl0,ad,hv',_,han⟩ | ⟨b2,o2,cap,t,m,hb2,hv',hn,hcap,hsh,hroom,_⟩
 ·have hl:l=[]:=List.length_eq_zero_iff.1 hl0
  have hv':v' = .slice ad 0 0:=by simpa using hv'
  cases ad with
  | none =>
   refine emp hv' hl (q:=none) (w1:=w.drew) ?_ c1 (hs.heap rfl) (Az.heap rfl rfl rfl rfl)
   rw [hv']; exact Lib.run_unsafeSliceData_nil w.drew _ _ _ _
  | some ad =>
   obtain ⟨s,hs2⟩:=Option.isSome_iff_exists.1 (han ad rfl)
   obtain ⟨k1,k2⟩:=(hs.heap (w':=w.drew) rfl).extra (.view ad 5)
   refine emp hv' hl (q:=some ⟨w.drew.heap.size,0,none⟩) (w1:=w.drew.alloc (.view ad 5)) ?_ ?_ k1 ((Az.heap (w:=w) (w':=w.drew) rfl rfl rfl rfl).trans k2)
   ·rw [hv']; exact Lib.run_unsafeSliceData_zero w.drew _ _ _ Tryz.underlying102 ad 0 s hs2
   ·rw [World.cell?_of_block (w:=w.drew) (BV _ _ (World.block_lt_of_cell? w _ c1))]; exact c1
 ·have hv':v' = .slice (some ⟨b2,o2,none⟩) l.length cap:=by simpa [BZ] using hv'
  rcases hs.ob j _ hj with ⟨q1,_⟩ | ⟨b3,post,fr,q1,q2,q3⟩
  ·have q1':β j v=none:=q1
   have hb2':β j v=some (b2,o2):=hb2
   rw [q1'] at hb2'; cases hb2'
  have q1':β j v=some (b3,0):=q1
  have hb2':β j v=some (b2,o2):=hb2
  rw [q1'] at hb2'; cases hb2'
  by_cases hl:l=[]
  ·subst hl
   by_cases hc0:cap=0
   ·subst hc0
    obtain ⟨k1,k2⟩:=(hs.heap (w':=w.drew) rfl).extra (.view ⟨b2,0,none⟩ 5)
    refine emp hv' rfl (q:=some ⟨w.drew.heap.size,0,none⟩) (w1:=w.drew.alloc (.view ⟨b2,0,none⟩ 5)) ?_ ?_ k1 ((Az.heap (w:=w) (w':=w.drew) rfl rfl rfl rfl).trans k2)
    ·rw [hv']; exact Lib.run_unsafeSliceData_zero w.drew _ _ _ Tryz.underlying102 ⟨b2,0,none⟩ 0 _ hsh
    ·rw [World.cell?_of_block (w:=w.drew) (BV _ _ (World.block_lt_of_cell? w _ c1))]; exact c1
   ·refine emp hv' rfl (q:=some ⟨b2,0,none⟩) (w1:=w.drew) ?_ c1 (hs.heap rfl) (Az.heap rfl rfl rfl rfl)
    rw [hv']; exact Lib.run_unsafeSliceData_row w.drew _ _ _ _ _ hc0
  ·have hlp:0<l.length:=List.length_pos_iff.2 hl
   have hSD:(Builtin.unsafeSliceData_ #[22] 102 #[v']).run Tryz.prog w.drew = .ok (.pointer (some ⟨b2,0,none⟩)) w.drew:=by
    rw [hv']; exact Lib.run_unsafeSliceData_row w.drew _ _ _ _ _ (by omega)
   have hsh':w.drew.shape? b2=some (5,((l.map fun x:UInt8=>Value.int .u8 x.toNat)++post).length):=by
    have q2':w.drew.heap[b2]?=_:=q2
    simp only [World.shape?,q2',List.size_toArray]
   have hcell:∀ i y,l[i]?=some y→w.drew.cell? ((⟨b2,0,none⟩:Addr).add i)=some (.int .u8 y.toNat):=by
    intro i y hy
    rw [CB,Nat.zero_add]
    have q2':w.drew.heap[b2]?=_:=q2
    rw [cell_of_row w.drew b2 i _ _ _ q2']
    have hil:i<l.length:=(List.getElem?_eq_some_iff.1 hy).1
    simp only [List.getElem?_toArray]
    rw [List.getElem?_append_left (by simpa using hil),List.getElem?_map,hy]; rfl
   have hUS:=Lib.run_unsafeString_row (P:=Tryz.prog) w.drew 102 3 9 5 Tryz.underlying102 cellsByte b2 _ hsh' l hl (by simp) h63 hcell
   refine (XM (W:=w) hv' c1 hSD c1 hUS).mono ?_
   rintro e w' ⟨rfl,rfl⟩
   obtain ⟨f1,f2,f3⟩:=Ahm w.drew ⟨b2,0,none⟩ l.length
   obtain ⟨k1,k2⟩:=hs.die (w':=w.drew.freeze ⟨b2,0,none⟩ l.length) hj rfl f1 f2 f3 (by rw [Acz]; exact Nat.le_refl _) (fun b _=>AbI w.drew _ _ b) (fun b _ hne=>Acp w.drew _ _ b fun e=>hne 0 (by rw [e]; exact q1'))
   exact ⟨_,_,β,_,F,rfl,hk,k1,k2,Rep.of_val⟩
theorem Ams:ArI Tryz.prog 26:=fun id ver j v cp p x a l H K ho hg ha hj h63 hk=>AlN ho hg ha hj h63 hk
end
section
open Go.RowKit
variable [A8]
theorem Aab:∀ {p q:List (Nat×Nat)} {x:TV},Eh (p++q) x=(Eh p x).bind (Eh q)
 | [],q,x=>by rw [KW]; rfl
 | (i,d)::p,q,x=>by
  cases x with
  | agg cs =>
   rw [List.cons_append,ES,ES]
   split
   ·cases cs[i]? with
    | none=>rfl
    | some c=>exact Aab
   ·rfl
  | arr n k cs =>
   rw [List.cons_append,Zk,Zk]
   split
   ·cases cs[i]? with
    | none=>rfl
    | some c=>exact Aab
   ·rfl
  | _=>rfl
theorem Adb {a a' b b':TV} (ha:Ar a=1) (ha':Ar a'=1) (hb:Ar b=1) (hb':Ar b'=1) (hn:DC a'=false):∀ {p:List (Nat×Nat)} {x x':TV},Eh p x=some (.agg [a,b])→Ie p x (.agg [a',b])=some x' →
  Eh (p++[(1,1)]) x'=some b∧∃ x'',Ie (p++[(1,1)]) x' b'=some x''∧Ie p x (.agg [a',b'])=some x''
 | [],x,x',hg,hs=>by
  rw [KW] at hg; cases hg
  have w1:Ar (.agg [a',b])=Ar (.agg [a,b]):=by simp [Ar,Bd,ha,ha',hb]
  have w2:Ar (.agg [a',b'])=Ar (.agg [a,b]):=by simp [Ar,Bd,ha,ha',hb,hb']
  rw [D8,if_pos w1] at hs; cases hs
  rw [D8,if_pos w2,List.nil_append,ES,Eb]
  have h1:Bd ([a',b].take 1)=1:=by simp [Bd,ha']
  rw [if_pos h1,if_pos h1]
  refine ⟨by simp [KW],_,?_,rfl⟩
  simp [D8,hb,hb']
 | (i,d)::p,x,x',hg,hs=>by
  cases x with
  | agg cs =>
   rw [ES] at hg
   rw [Eb] at hs
   split at hg
   ·rename_i hw
    rw [if_pos hw] at hs
    cases hc:cs[i]? with
    | none=>rw [hc] at hg; cases hg
    | some c =>
     rw [hc] at hg hs
     have hg':Eh p c=some (.agg [a,b]):=hg
     have hs':((Ie p c (.agg [a',b])).map fun c'=>TV.agg (cs.set i c'))=some x':=hs
     obtain ⟨c',h1,rfl⟩:=Option.map_eq_some_iff.1 hs'
     obtain ⟨g1,c'',g2,g3⟩:=Adb ha ha' hb hb' hn hg' h1
     have hi:i<cs.length:=(List.getElem?_eq_some_iff.1 hc).1
     have hti:(cs.set i c').take i=cs.take i:=by rw [List.take_set_of_le (Nat.le_refl _)]
     refine ⟨?_,.agg (cs.set i c''),?_,?_⟩
     ·rw [List.cons_append,ES,hti,if_pos hw,List.getElem?_set_self hi]; exact g1
     ·rw [List.cons_append,Eb,hti,if_pos hw,List.getElem?_set_self hi]
      show (Ie (p++[(1,1)]) c' b').map _=_
      rw [g2]; simp
     ·rw [Eb,if_pos hw,hc]
      show (Ie p c (.agg [a',b'])).map _=_
      rw [g3]; rfl
   ·cases hg
  | arr n k cs =>
   rw [AdA] at hs
   split at hs
   ·rename_i h
    have:=h.2
    simp [DC,CG,hn] at this
   ·cases hs
  | _=>cases hg
structure Bld (H:List Ob) (id ver:Nat) (p:List (Nat×Nat)) (j v:Nat) (x:TV) (l:List UInt8):Prop where
 ob:H[id]?=some (.obj ver x)
 fields:∃ a,Xt id ver p a∧Eh p x=some (.agg [a,.os 1 j v [] 0 l.length l.length])
 row:H[j]?=some (.bld v 5 l)
 ne:id≠j
 fact:∃ (q:Nat) (T:TypeId) (m:Nat),H[q]?=some (Ob.fact id ver T m)∧Ac6 T m (BZ p)
theorem Uz {id ver:Nat} {p:List (Nat×Nat)} {a:TV} (h:Xt id ver p a):Ar a=1:=by rcases h with rfl | rfl<;>rfl
end
section
variable [A8]
set_option maxRecDepth 100000
def Df:Ae := .seq (.ops [mv_ 8 0,mv_ 9 0,po_ 10 (.nilc (.t 9)),po_ 11 (.fieldA 1 1 (.t 10)),po_ 12 (.load false 1 (.t 11)),mv_ 13 1,so_ 14 (.appS 5 (.t 12) (.t 13)),po_ 15 (.nilc (.t 8)),po_ 16 (.fieldA 1 1 (.t 15)),⟨none,.s (.store 1 (.t 16) (.t 14)),none⟩] [1])
 (.seq (.ops [mv_ 17 1,po_ 18 (.lenS (.t 17)),mv_ 4 18,po_ 5 (.mov (.c .nilIface))] [4,5])
 (.ret))
def C9:Ae := .seq (.ops [mv_ 6 0,so_ 7 (.call 45 [.t 6])] [0,1])
 Df
def DD:Ae := .ownT 0 [(1,1)] 5 (.seq (.ops [po_ 4 (.mov (ci_ 0)),po_ 5 (.mov (.c .nilIface))] [0,1])
 C9)
def DF:List VR:=[.tmp 4,.tmp 5]
theorem Ha:Tryz.f32.body.bind (trC Tryz.prog Tryz.f32.ntmps)=some (er DD):=by kernel_rfl
theorem G9:trR Tryz.prog Tryz.f32.results.toList=some DF:=by kernel_rfl
def Ey:=Ac Df.eq_1
def Ez:=Ac C9.eq_1
def Dp:=Ac DD.eq_1
theorem FD {K:TV→Prop} {e:Env} {H:List Ob}:res DF e H K=res [.tmp 4,.tmp 5] e H K:=Aa rfl
def DI:=(And.intro (And.intro @Ey @Ez) (And.intro @Dp @FD))
def Gu:=Gs 19 Tryz.func32 Ha G9 rfl
end
section
open Go.RowKit
variable [A8]
def Buf (H:List Ob) (r:TV) (l:List UInt8):Option Nat→Prop
 | none=>r = .val (.slice none 0 0)∧l=[]
 | some j=>∃ v,r = .os 1 j v [] 0 l.length l.length∧H[j]?=some (.bld v 5 l)
theorem Buf.wd {H:List Ob} {r:TV} {l:List UInt8} {J:Option Nat} (h:Buf H r l J):Ar r=1:=by
 cases J with
 | none=>rw [h.1]; rfl
 | some j=>obtain ⟨v,e,_⟩:=h; rw [e]; rfl
def AhP:List (Nat×Nat)→TV→Bool
 | [],_=>true
 | (i,d)::p,.agg cs=>decide (Bd (cs.take i)=d) && (match cs[i]? with | some c=>AhP p c | none=>false)
 | _::_,_=>false
theorem Xv {i d:Nat} {p:List (Nat×Nat)} {x:TV} (h:AhP ((i,d)::p) x=true):∃ cs c,x = .agg cs∧Bd (cs.take i)=d∧cs[i]?=some c∧AhP p c=true:=by
 cases x with
 | agg cs =>
  simp only [AhP,Bool.and_eq_true,decide_eq_true_eq] at h
  obtain ⟨h1,h2⟩:=h
  cases hc:cs[i]? with
  | none=>rw [hc] at h2; cases h2
  | some c=>rw [hc] at h2; exact ⟨cs,c,rfl,h1,hc,h2⟩
 | _=>simp [AhP] at h
theorem AaW:∀ {p:List (Nat×Nat)} {x r:TV},AhP p x=true→Eh p x=some r→Ie p x r=some x
 | [],x,r,_,hg=>by rw [KW] at hg; cases hg; rw [D8,if_pos rfl]
 | (i,d)::p,x,r,h,hg=>by
  obtain ⟨cs,c,rfl,hd,hc,h'⟩:=Xv h
  rw [ES,if_pos hd,hc] at hg
  rw [Eb,if_pos hd,hc,Option.bind_some,AaW h' hg,Option.map_some]
  obtain ⟨hi,rfl⟩:=List.getElem?_eq_some_iff.1 hc
  rw [List.set_getElem_self]
theorem W9:∀ {p:List (Nat×Nat)} {x r b:TV},AhP p x=true→Eh p x=some r→Ar b=Ar r→∃ x',Ie p x b=some x'∧AhP p x'=true∧Eh p x'=some b∧∀ c,Ar c=Ar b→Ie p x' c=Ie p x c
 | [],x,r,b,_,hg,hw=>by
  rw [KW] at hg; cases hg
  refine ⟨b,by rw [D8,if_pos hw],rfl,rfl,fun c hc=>by rw [D8,D8,if_pos hc,if_pos (hc.trans hw)]⟩
 | (i,d)::p,x,r,b,h,hg,hw=>by
  obtain ⟨cs,c,rfl,hd,hc,h'⟩:=Xv h
  rw [ES,if_pos hd,hc] at hg
  obtain ⟨c',h1,h2,h3,h4⟩:=W9 h' hg hw
  have hi:i<cs.length:=(List.getElem?_eq_some_iff.1 hc).1
  have hti:(cs.set i c').take i=cs.take i:=by rw [List.take_set_of_le (Nat.le_refl _)]
  refine ⟨.agg (cs.set i c'),by rw [Eb,if_pos hd,hc,Option.bind_some,h1]; rfl,?_,?_,fun y hy => ?_⟩
  ·simp [AhP,hti,hd,List.getElem?_set_self hi,h2]
  ·rw [ES,hti,if_pos hd,List.getElem?_set_self hi]; exact h3
  ·rw [Eb,Eb,hti,if_pos hd,if_pos hd,List.getElem?_set_self hi,hc,Option.bind_some,Option.bind_some,h4 y hy]
   cases Ie p c y with
   | none=>rfl
   | some z=>simp [List.set_set]
theorem WR:∀ {p:List (Nat×Nat)} {x a r b:TV},AhP p x=true→Eh p x=some (.agg [a,r])→Ar a=1→Ar r=1→Ar b=1→Ie (p++[(1,1)]) x b=Ie p x (.agg [a,b])
 | [],x,a,r,b,_,hg,ha,hr,hb=>by
  rw [KW] at hg; cases hg
  have w1:Ar (.agg [a,b])=Ar (.agg [a,r]):=by simp [Ar,Bd,hb,hr]
  have h1:Bd ([a,r].take 1)=1:=by simp [Bd,ha]
  rw [D8,if_pos w1,List.nil_append,Eb,if_pos h1]
  simp [D8,hb,hr]
 | (i,d)::p,x,a,r,b,h,hg,ha,hr,hb=>by
  obtain ⟨cs,c,rfl,hd,hc,h'⟩:=Xv h
  rw [ES,if_pos hd,hc] at hg
  rw [List.cons_append,Eb,Eb,if_pos hd,if_pos hd,hc,Option.bind_some,Option.bind_some,WR h' hg ha hr hb]
theorem Ai8 {P:Program} {s id ver:Nat} {p0 p:List (Nat×Nat)} {x r:TV} {l:List UInt8} {J:Option Nat} {H:List Ob} {e:Env} {c:Ae} {Q:VEx→Env→List Ob→Prop} (hs:get e s = .op id ver p0) (ho:H[id]?=some (.obj ver x))
  (hg:Eh (p0++p) x=some r) (hb:Buf H r l J) (hset:∀ b,Ar b=1→∃ x',Ie (p0++p) x b=some x') (hself:Ie (p0++p) x r=some x)
  (h:∀ H' x' j v,Ie (p0++p) x (.os 1 j v [] 0 l.length l.length)=some x'→H'[id]?=some (.obj ver x')→H'[j]?=some (.bld v 5 l)→(∀ i,i<H.length→i≠id→H'[i]?=H[i]?)→H.length≤H'.length→(J=some j∨J=none∧j=H.length)→vwp P c Q e H') :
  vwp P (.ownT s p 5 c) Q e H:=by
 rw [Als,hs]
 simp only [ho,true_and]
 rw [hg]
 have hid:id<H.length:=(List.getElem?_eq_some_iff.1 ho).1
 cases J with
 | none =>
  obtain ⟨rfl,rfl⟩:=hb
  obtain ⟨x',hx⟩:=hset (.os 1 H.length 0 [] 0 0 0) rfl
  simp only [hx]
  refine h _ x' H.length 0 hx ?_ ?_ ?_ ?_ (.inr ⟨rfl,rfl⟩)
  ·rw [List.getElem?_append_left (by simpa using hid),List.getElem?_set_self hid]
  ·rw [List.getElem?_append_right (by simp)]; simp
  ·intro i hi hne
   rw [List.getElem?_append_left (by simpa using hi),List.getElem?_set_ne (Ne.symm hne)]
  ·simp
 | some j =>
  obtain ⟨v,rfl,hj⟩:=hb
  exact h H x j v hself ho hj (fun _ _ _=>rfl) (Nat.le_refl _) (.inl rfl)
theorem Akd {id ver q m:Nat} {T:TypeId} {J:Option Nat} {p:List (Nat×Nat)} {x a r:TV} {l s:List UInt8} {H:List Ob} {K:TV→List Ob→Prop} (ho:H[id]?=some (.obj ver x)) (hp:AhP p x=true) (hg:Eh p x=some (.agg [a,r])) (ha:Xt id ver p a) (hb:Buf H r l J)
  (hq:H[q]?=some (.fact id ver T m)) (hT:Ac6 T m (BZ p)) (hlen:l.length+s.length≤140737488355328)
  (hk:∀ H' x' r' j,Ie p x (.agg [.op id ver p,r'])=some x'→H'[id]?=some (.obj ver x')→Buf H' r' (l++s) (some j)→(∀ i,i<H.length→i≠id→J≠some i→H'[i]?=H[i]?)→H.length≤H'.length→(J=some j∨J=none∧j=H.length)→K (.tup [i64 (s.length:Int),.val .nilIface]) H') :
  Aq Tryz.prog 32 [.op id ver p,.val (.string (str s))] H K:=by
 refine Gu (by simp) ?_
 have wa:=Uz ha
 have wr:=hb.wd
 have hgr:Eh (p++[(1,1)]) x=some r:=by
  rw [Aab,hg,Option.bind_some,ES,if_pos (by simp [Bd,wa])]; rfl
 rw [Dp]
 refine Ai8 (p0:=p) (p:=[(1,1)]) rfl ho hgr hb ?_ ?_ ?_
 ·intro b wb
  rw [WR hp hg wa wr wb]
  obtain ⟨x',h1,_⟩:=W9 (b := .agg [a,b]) hp hg (by simp [Ar,Bd,wb,wr])
  exact ⟨x',h1⟩
 ·rw [WR hp hg wa wr wr]; exact AaW hp hg
 intro H1 x1 j v hs1 ho1 hj1 hfr hl1 hJ
 rw [WR hp hg wa wr rfl] at hs1
 obtain ⟨x1',e1,hp1,hg1,hov⟩:=W9 (b := .agg [a,.os 1 j v [] 0 l.length l.length]) hp hg (by simp [Ar,Bd,wr])
 rw [hs1] at e1; cases e1
 obtain ⟨x2,hs2,_⟩:=W9 (b := .agg [.op id ver p,.os 1 j v [] 0 l.length l.length]) hp1 hg1 (by simp [Ar,Bd,wa])
 have hne:id≠j:=fun e=>by rw [e] at ho1; rw [hj1] at ho1; cases ho1
 have hqid:q≠id:=fun e=>by rw [e] at hq; rw [ho] at hq; cases hq
 have hq1:H1[q]?=some (.fact id ver T m):=by rw [hfr q ((List.getElem?_eq_some_iff.1 hq).1) hqid]; exact hq
 simp -dsimp (disch:=first | assumption | omega) only [↓Ai,Ad,Ag,Af,eq_self,Nat.reduceEqDiff,↓reduceIte,Nat.reduceAdd,reduceCtorEq,↓DI]
 refine Ad0 ho1 hg1 rfl ha hq1 hT hs2 rfl ?_
 have hid:id<H1.length:=(List.getElem?_eq_some_iff.1 ho1).1
 have hjl:j<H1.length:=(List.getElem?_eq_some_iff.1 hj1).1
 obtain ⟨g1,x'',g2,g3⟩:=Adb (b' := .os 1 j (v+1) [] 0 (l++s).length (l++s).length) wa (by rfl) (by rfl) (by rfl) (by rfl) hg1 hs2
 have f1:(H1.set id (.obj ver x2))[id]?=some (.obj ver x2):=by simp [hid]
 have f2:(H1.set id (.obj ver x2))[j]?=some (.bld v 5 l):=by rw [List.getElem?_set_ne hne]; exact hj1
 have f3:((H1.set id (.obj ver x2)).set j (.bld (v+1) 5 (l++s)))[id]?=some (.obj ver x2):=by rw [List.getElem?_set_ne (Ne.symm hne)]; exact f1
 have f4:((H1.set id (.obj ver x2)).set j (.bld (v+1) 5 (l++s))).set id (.obj ver x'')=(H1.set id (.obj ver x'')).set j (.bld (v+1) 5 (l++s)):=by
  rw [List.set_comm _ _ hne,List.set_set,List.set_comm _ _ hne.symm]
 have e1:(l++s).length=l.length+s.length:=by simp
 rw [e1] at g2
 rw [hov _ (by simp [Ar,Bd,wa])] at g3
 have hk':=hk ((H1.set id (.obj ver x'')).set j (.bld (v+1) 5 (l++s))) x'' _ j g3 (by rw [List.getElem?_set_ne (Ne.symm hne)]; simp [hid]) ⟨v+1,rfl,by simp [hjl]⟩ (fun i hi h1 h2=>by
  have hij:j≠i:=by
   rcases hJ with e | ⟨_,e⟩
   ·exact fun h=>h2 (h▸e)
   ·omega
  rw [List.getElem?_set_ne hij,List.getElem?_set_ne (Ne.symm h1),hfr i hi h1]) (by simpa using hl1) hJ
 have bls:bl (str s)=s:=by simp [bl,str]
 simp -dsimp (disch:=first | assumption | omega) only [↓Ai,Ad,Ag,Af,eq_self,Nat.reduceEqDiff,↓reduceIte,reduceCtorEq,↓DI,f1,f2,f3,f4,g1,g2,bls,hlen]
 exact hk'
end
section
open Go.RowKit
variable [A8]
set_option maxRecDepth 100000 in
theorem ApH:Ac6 68 2 0:=⟨by decide,by kernel_rfl⟩
structure BO (H:List Ob) (l:List UInt8):Prop where
 ex:∃ a r,H[0]?=some (.obj 0 (.agg [a,r]))∧Xt 0 0 [] a∧Buf H r l (some 2)
 fact:H[1]?=some (.fact 0 0 68 2)
theorem BO.keep {H:List Ob} {l:List UInt8} (O:BO H l) (G:List Ob):BO (H++G) l:=by
 obtain ⟨⟨a,r,h1,h2,v,rfl,h3⟩,h4⟩:=O
 have k:∀ {i o},H[i]?=some o→(H++G)[i]?=some o:=fun h=>by rw [List.getElem?_append_left (List.getElem?_eq_some_iff.1 h).1]; exact h
 exact ⟨⟨a,_,k h1,h2,v,rfl,k h3⟩,k h4⟩
theorem BO.len {H:List Ob} {l:List UInt8} (O:BO H l):3≤H.length:=by
 obtain ⟨⟨a,r,h1,h2,v,rfl,h3⟩,h4⟩:=O
 have:=(List.getElem?_eq_some_iff.1 h3).1; omega
theorem boV {H:List Ob} {l s:List UInt8} {K:TV→List Ob→Prop} (O:BO H l) (hlen:l.length+s.length≤140737488355328)
  (hk:∀ H',BO H' (l++s)→H.length≤H'.length→(∀ i,i<H.length→2<i→H'[i]?=H[i]?)→K (.tup [i64 (s.length:Int),.val .nilIface]) H') :
  Aq Tryz.prog 32 [.op 0 0 [],ts s] H K:=by
 obtain ⟨⟨a,r,h2,ha,hb⟩,hf⟩:=O
 have wa:=Uz ha
 refine Akd (q:=1) h2 rfl rfl ha hb hf ApH hlen ?_
 intro H' x' r' j hs ho hb' hfr hl hJ
 have hx:x' = .agg [.op 0 0 [],r']:=by
  rw [D8,if_pos (by simp [Ar,Bd,hb'.wd,wa,hb.wd])] at hs
  exact (Option.some.inj hs).symm
 subst hx
 have hj:j=2:=by
  rcases hJ with h | ⟨h,_⟩
  ·exact (Option.some.inj h).symm
  ·cases h
 subst hj
 have hf':=hfr 1 (List.getElem?_eq_some_iff.1 hf).1 (by omega) (by simp)
 exact hk H' ⟨⟨_,_,ho,.inr rfl,hb'⟩,hf'.trans hf⟩ hl fun i hi h2=>hfr i hi (by omega) (by simp; omega)
theorem ApD (l:List UInt8):Lib.hasSuffix l [10]=decide (l.getLast?=some 10):=by
 unfold Lib.hasSuffix
 by_cases h:l=[]
 ·subst h; rfl
 ·rw [List.getLast?_eq_some_getLast h]
  conv=>lhs; rw [←List.dropLast_concat_getLast h]
  by_cases e:l.getLast h=10
  ·rw [e]; simp
  ·have:([10]:List UInt8).isSuffixOf (l.dropLast++[l.getLast h])=false:=by
    rw [Bool.eq_false_iff]
    intro hs
    rw [List.isSuffixOf_iff_suffix] at hs
    obtain ⟨t,ht⟩:=hs
    have:=congrArg List.getLast? ht
    simp at this
    exact e this.symm
   rw [this]; simp [e]
theorem Af4 {k:Nat} (h:k≤2):([TV.val (.string (str [32])),TV.val (.string (str [45])),TV.val (.string (str [43]))]:List TV)[k]?=some (ts (TF k)):=by
 rcases (by omega:k=0∨k=1∨k=2) with rfl | rfl | rfl<;>rfl
section
variable [Aj] [AL]
theorem Aj9 {e:Env}:(Opd.g 1).ev e = .fp (.arr 3 1 [.val (.string (str [32])),.val (.string (str [45])),.val (.string (str [43]))]):=by
 rw [A2U,AL.k]; rfl
set_option maxRecDepth 100000 in
theorem AqL {m:List Ed} {a b:Nat} {H:List Ob} {l:List UInt8} {K:TV→List Ob→Prop} (O:BO H l) (hm:m.length≤10000) (hk2:∀ e∈m,e.1≤2) (hm2:∀ e∈m,e.2.length≤4000) (ha:a≤10000) (hb:b≤10000) (hlen:l.length≤1000000000000)
  (hk:∀ H',BO H' (l++Ht a (cA m) b (cB m)++m.flatMap DV)→H.length≤H'.length→K (.tup []) H') :
  Aq Tryz.prog 25 [.agg [i64 (a:Int),i64 (b:Int),.sl 2 (m.map ed)],.op 0 0 []] H K:=by
 refine RV (by simp) ?_
 have c1:=Aa4 m
 have c2:=Abk m
 have d0:=AaE a (cA m) b (cB m)
 have d1:(Em a (cA m)).length≤50000:=by unfold Ht at d0; simp only [List.length_append] at d0; omega
 have d2:(Em b (cB m)).length≤50000:=by unfold Ht at d0; simp only [List.length_append] at d0; omega
 simp -dsimp (disch:=first | assumption | omega | (simp only [Ah];try omega)) only [↓Ai,Ad,Ag,Af,eq_self,Nat.reduceEqDiff,↓reduceIte,Nat.reduceAdd,reduceCtorEq,↓Dh]
 refine (Xd m a b (by omega)).calls rfl ?_
 rintro _ rfl
 simp -dsimp (disch:=first | assumption | omega | (simp only [Ah];try omega)) only [↓Ai,Ad,Ag,Af,eq_self,Nat.reduceEqDiff,↓reduceIte,Nat.reduceAdd,↓Dh]
 refine Agz (ts (Em a (cA m))) ⟨(AlB a (cA m) (by omega) (by omega)).calls rfl (fun r hr=>⟨hr,rfl⟩),?_⟩
 simp -dsimp (disch:=first | assumption | omega | (simp only [Ah];try omega)) only [↓Ai,Ad,Ag,Af,eq_self,Nat.reduceEqDiff,↓reduceIte,Zr]
 refine (AlB b (cB m) (by omega) (by omega)).calls rfl ?_
 rintro _ rfl
 simp -dsimp (disch:=first | assumption | omega | (simp only [Ah];try omega)) only [↓Ai,Ad,Ag,Af,eq_self,Nat.reduceEqDiff,↓reduceIte,Zr]
 refine boV (O.keep _) (by simp only [List.length_append,List.length_cons,List.length_nil]; omega) (fun H1 O1 l1 f1 => ?_)
 have q1:=f1 H.length (by simp) (by have:=O.len; omega)
 rw [List.getElem?_append_right (Nat.le_refl _),Nat.sub_self] at q1
 have q2:H1[H.length]?=some (.obj 0 (.agg [i64 (a:Int),i64 (b:Int),.sl 2 (m.map ed)])):=q1
 rw [List.length_append] at l1
 simp -dsimp (disch:=first | assumption | omega | (simp only [Ah];try omega)) only [↓Ai,Ad,Ag,Af,eq_self,Nat.reduceEqDiff,↓reduceIte,Nat.reduceAdd,↓Dh,q2]
 have tl:=Xj m 4000 hm2
 have tl2:m.length*(4000+30)≤10000*4030:=Nat.mul_le_mul (by omega) (Nat.le_refl _)
 refine D6 (fun q e H2=>∃ i:Nat,q=m.length - i∧i≤m.length∧BO H2 (l++Ht a (cA m) b (cB m)++(m.take i).flatMap DV)∧H1.length≤H2.length∧e=[(1,.op 0 0 []),(28,.sl 2 (m.map ed)),(29,i64 (m.length:Int)),(30,i64 (i:Int))]) m.length ?_ ?_
 ·exact ⟨0,rfl,by omega,by simpa [Ht] using O1,Nat.le_refl _,rfl⟩
 ·rintro q e H2 ⟨i,rfl,hi,O2,l2,rfl⟩
  have tl3:((m.take i).flatMap DV).length≤10000*4030:=by
   have t:=Xj (m.take i) 4000 fun e he=>hm2 e (List.mem_of_mem_take he)
   have t2:(m.take i).length*(4000+30)≤10000*4030:=Nat.mul_le_mul (by simp; omega) (Nat.le_refl _)
   omega
  by_cases h:i<m.length
  ·obtain ⟨x,hx⟩:∃ x,m[i]?=some x:=⟨_,List.getElem?_eq_getElem h⟩
   have hxm:=List.mem_of_getElem? hx
   have x2:=hm2 x hxm
   have sg:=Af4 (hk2 x hxm)
   have sl:(TF x.1).length=1:=by unfold TF; split<;>(try split)<;>rfl
   have hs:m.take (i+1)=m.take i++[x]:=by
    obtain ⟨_,rfl⟩:=List.getElem?_eq_some_iff.1 hx
    exact List.take_succ_eq_append_getElem h
   simp -dsimp (disch:=first | assumption | omega | (simp only [Ah];try omega)) only [↓Ai,Ad,Ag,Af,eq_self,Nat.reduceEqDiff,↓reduceIte,Nat.reduceAdd,↓Dh,hx,Zt,↓Aj9,sg,Zr]
   have l3:=O2.len
   have hb1:(l++Ht a (cA m) b (cB m)++(m.take i).flatMap DV).length≤1000000000000+100000+10000*4030:=by
    rw [List.length_append,List.length_append]; omega
   refine boV (O2.keep _) (by simp only [List.length_append] at hb1 ⊢; omega) (fun H3 O3 l4 f3 => ?_)
   have q3:=f3 H2.length (by simp) (by omega)
   rw [List.getElem?_append_right (Nat.le_refl _),Nat.sub_self] at q3
   have q4:H3[H2.length]?=some (.obj 0 (.agg [i64 (x.1:Int),ts x.2])):=q3
   rw [List.length_append] at l4
   simp -dsimp (disch:=first | assumption | omega | (simp only [Ah];try omega)) only [↓Ai,Ad,Ag,Af,eq_self,Nat.reduceEqDiff,↓reduceIte,Nat.reduceAdd,q4]
   refine (Y6 x.2 [10] (by omega)).calls rfl ?_
   rintro _ rfl
   rw [ApD]
   have hfm:(m.take (i+1)).flatMap DV=(m.take i).flatMap DV++DV x:=by rw [hs,List.flatMap_append]; simp
   by_cases h10:x.2.getLast?=some 10
   ·simp -dsimp (disch:=first | assumption | omega | (simp only [Ah];try omega)) only [↓Ai,Ad,Ag,Af,eq_self,Nat.reduceEqDiff,↓reduceIte,h10]
    refine BU (m.length - (i+1)) (by omega) (by omega) ⟨i+1,rfl,by omega,?_,by omega,rfl⟩
    rw [hfm,←List.append_assoc]
    have e:DV x=TF x.1++x.2:=by unfold DV; rw [if_pos h10]; simp
    rw [e]; exact O3
   ·simp -dsimp (disch:=first | assumption | omega | (simp only [Ah];try omega)) only [↓Ai,Ad,Ag,Af,eq_self,Nat.reduceEqDiff,↓reduceIte,h10]
    refine boV (s:=X6) O3 (by have:X6.length=29:=rfl; simp only [List.length_append] at hb1 ⊢; omega) (fun H4 O4 l5 f4 => ?_)
    simp -dsimp (disch:=first | assumption | omega | (simp only [Ah];try omega)) only [↓Ai,Ad,Ag,Af,eq_self,Nat.reduceEqDiff,↓reduceIte]
    refine BU (m.length - (i+1)) (by omega) (by omega) ⟨i+1,rfl,by omega,?_,by omega,rfl⟩
    rw [hfm,←List.append_assoc]
    have e:DV x=TF x.1++x.2++X6:=by unfold DV; rw [if_neg h10]
    rw [e,←List.append_assoc]; exact O4
  ·obtain rfl:i=m.length:=by omega
   rw [List.take_length] at O2
   simp -dsimp (disch:=first | assumption | omega | (simp only [Ah];try omega)) only [↓Ai,Ad,Ag,Af,eq_self,Nat.reduceEqDiff,↓reduceIte,↓Dh]
   exact hk H2 O2 (by omega)
end
end
section
open Go.RowKit
variable [A8]
structure ApU (x:Int) (n:Nat):Prop where
 h:(x<0∧n=0)∨x=(n:Int)∨(1000<x∧n=1000)
 le:n≤1000
 lo : -9223372036854775808≤x
 hi:x≤9223372036854775807
theorem AqY {l:List UInt8}:∀ s∈Ak l,s.length≤l.length:=fun s hs=>by
 have:=BQ l
 have h2:=(List.sublist_flatten_of_mem hs).length_le
 rw [this] at h2; exact h2
theorem Adq {a b:List UInt8} (ha:a.length≤4000) (hb:b.length≤4000):(edx (Du a b) (Ak a) (Ak b)).length≤8000:=by
 have h1:=Ago (Du a b) (Ak a) (Ak b)
 have h2:=BN a
 have h3:=BN b
 omega
theorem AfO {a b:List UInt8} (ha:a.length≤4000) (hb:b.length≤4000):∀ e∈edx (Du a b) (Ak a) (Ak b),e.1≤2∧e.2.length≤4000∧e.2≠[]:=by
 intro e he
 obtain ⟨h1,h2⟩:=AgG _ _ _ e he
 refine ⟨h1,?_,?_⟩
 ·rcases h2 with h2 | h2
  ·have:=AqY _ h2; omega
  ·have:=AqY _ h2; omega
 ·rcases h2 with h2 | h2
  ·exact Afo a [] _ h2
  ·exact Afo b [] _ h2
section
variable [Aj] [AL]
theorem Xp {E:List Ed} {n:Nat} (hE:E.length≤8000) (hE2:∀ e∈E,e.1≤2∧e.2.length≤4000∧e.2≠[]) (hn:n≤1000) (pl:(EX E n).length≤500000000000) :
  vwp Tryz.prog (.loop [7,16,17,18] IB) (Blk 0 (Thn Tryz.prog IE (Q4 OV fun x H'=>Bl (frs H' x) fun r=>r=slB (EX E n))))
   [(7,.op 0 0 []),(16,.sl 3 ((hks n E.length (chs 0 E)).map (hkT E))),(17,i64 ((hks n E.length (chs 0 E)).length:Int)),(18,i64 ((0:Nat):Int))]
   [.obj 0 (.agg [.val (.pointer none),.os 1 2 0 [] 0 0 0]),.fact 0 0 68 2,.bld 0 5 []]:=by
 have hkl:=AcO n E.length _ (chs 0 E) (Nat.le_refl _)
 have hcl:=XA E 0
 have hpo:EX E n=(hks n E.length (chs 0 E)).flatMap (CQ E):=rfl
 generalize hks n E.length (chs 0 E)=hs at *
 have htl:∀ i,((hs.take i).flatMap (CQ E)).length≤500000000000:=fun i=>by
  have h1:=AbD (E:=E) (by omega) (fun e he=>(hE2 e he).2.1) (hs.take i)
  have h2:(hs.take i).length*50000000≤10000*50000000:=Nat.mul_le_mul (by simp; omega) (Nat.le_refl _)
  omega
 refine D6 (fun q e H=>∃ i:Nat,q=hs.length - i∧i≤hs.length∧BO H ((hs.take i).flatMap (CQ E))∧e=[(7,.op 0 0 []),(16,.sl 3 (hs.map (hkT E))),(17,i64 (hs.length:Int)),(18,i64 (i:Int))]) hs.length ?_ ?_
 ·exact ⟨0,rfl,by omega,⟨⟨_,_,rfl,.inl rfl,0,rfl,rfl⟩,rfl⟩,rfl⟩
 ·rintro q e H ⟨i,rfl,hi,O,rfl⟩
  have l0:=O.len
  by_cases h:i<hs.length
  ·obtain ⟨p,hp⟩:∃ p,hs[i]?=some p:=⟨_,List.getElem?_eq_getElem h⟩
   have g1:=Aa4 (E.take p.1)
   have g2:=Abk (E.take p.1)
   have g3:(E.take p.1).length≤E.length:=by simp; omega
   have g4:(GZ E p).length≤E.length:=AcU (a:=p.1) (b:=p.2)
   have hs1:hs.take (i+1)=hs.take i++[p]:=by
    obtain ⟨_,rfl⟩:=List.getElem?_eq_some_iff.1 hp
    exact List.take_succ_eq_append_getElem h
   simp -dsimp (disch:=first | assumption | omega | (simp only [Ah];try omega)) only [↓Ai,Ad,Ag,Af,eq_self,Nat.reduceEqDiff,↓reduceIte,Nat.reduceAdd,↓Gl,hp,Abd]
   refine AqL (m:=GZ E p) (O.keep _) (by omega) (fun e he=>(hE2 e (Zw he)).1) (fun e he=>(hE2 e (Zw he)).2.1) (by omega) (by omega) (by have:=htl i; omega) (fun H' O' l' => ?_)
   rw [List.length_append] at l'
   simp -dsimp (disch:=first | assumption | omega | (simp only [Ah];try omega)) only [↓Ai,Ad,Ag,Af,eq_self,Nat.reduceEqDiff,↓reduceIte,Nat.reduceAdd]
   refine BU (hs.length - (i+1)) (by omega) (by omega) ⟨i+1,rfl,by omega,?_,rfl⟩
   rw [hs1,List.flatMap_append]
   have e:[p].flatMap (CQ E)=Ht (cA (E.take p.1)) (cA (GZ E p)) (cB (E.take p.1)) (cB (GZ E p))++(GZ E p).flatMap DV:=by simp [CQ]
   rw [e,←List.append_assoc]; exact O'
  ·obtain rfl:i=hs.length:=by omega
   rw [List.take_length,←hpo] at O
   obtain ⟨⟨a,r,h1,ha,v,rfl,h3⟩,hf⟩:=O
   have hw:=Uz ha
   have hb:=Ams
   simp -dsimp (disch:=first | assumption | omega | (simp only [Ah];try omega)) only [↓Ai,Ad,Ag,Af,eq_self,Nat.reduceEqDiff,↓reduceIte,↓Gl,hb,h1,h3,UU]
theorem AlF (a b:List UInt8) (x:Int) (n:Nat) (ha:a.length≤4000) (hb:b.length≤4000) (hx:ApU x n) :
  Ku Tryz.prog 13 [slB a,slB b,i64 x] (fun r=>r=slB (EX (edx (Du a b) (Ak a) (Ak b)) n)):=by
 refine Aq.toFreshV (Aad (by simp) ?_)
 have hE:=Adq ha hb
 have hE2:=AfO ha hb
 have hed:=Abp (a:=a) (b:=b) (by omega) (by omega)
 generalize edx (Du a b) (Ak a) (Ak b)=E at *
 obtain ⟨hx,hn,x0,x1⟩:=hx
 have hhv:=Apw E n (by omega) hn
 have pl:=AgB (E:=E) (c:=n) (by omega) fun e he=>(hE2 e he).2.1
 have hkl:=AcO n E.length _ (chs 0 E) (Nat.le_refl _)
 have hcl:=XA E 0
 rcases hx with ⟨h,rfl⟩ | rfl | ⟨h,rfl⟩
 ·simp -dsimp (disch:=first | assumption | omega | (simp only [Ah];try omega)) only [↓Ai,Ad,Ag,Af,eq_self,Nat.reduceEqDiff,↓reduceIte,Nat.reduceAdd,reduceCtorEq,↓Gl]
  refine hed.lends (args':=[slB a,slB b]) ?_ ?_
  ·simp -dsimp (disch:=first | assumption | omega) only [Ag,eq_self]
  rintro _ rfl
  simp -dsimp (disch:=first | assumption | omega | (simp only [Ah];try omega)) only [↓Ai,Ad,Ag,Af,eq_self,Nat.reduceLT,Nat.reduceEqDiff,↓reduceIte,reduceCtorEq]
  refine hhv.calls rfl ?_
  rintro _ rfl
  simp -dsimp (disch:=first | assumption | omega | (simp only [Ah];try omega)) only [↓Ai,Ad,Ag,Af,eq_self,Nat.reduceEqDiff,↓reduceIte,Nat.reduceAdd,reduceCtorEq]
  exact Xp (by omega) hE2 hn pl
 ·simp -dsimp (disch:=first | assumption | omega | (simp only [Ah];try omega)) only [↓Ai,Ad,Ag,Af,eq_self,Nat.reduceEqDiff,↓reduceIte,Nat.reduceAdd,reduceCtorEq,↓Gl]
  refine hed.lends (args':=[slB a,slB b]) ?_ ?_
  ·simp -dsimp (disch:=first | assumption | omega) only [Ag,eq_self]
  rintro _ rfl
  simp -dsimp (disch:=first | assumption | omega | (simp only [Ah];try omega)) only [↓Ai,Ad,Ag,Af,eq_self,Nat.reduceEqDiff,↓reduceIte,reduceCtorEq]
  refine hhv.calls rfl ?_
  rintro _ rfl
  simp -dsimp (disch:=first | assumption | omega | (simp only [Ah];try omega)) only [↓Ai,Ad,Ag,Af,eq_self,Nat.reduceEqDiff,↓reduceIte,Nat.reduceAdd,reduceCtorEq]
  exact Xp (by omega) hE2 hn pl
 ·simp -dsimp (disch:=first | assumption | omega | (simp only [Ah];try omega)) only [↓Ai,Ad,Ag,Af,eq_self,Nat.reduceEqDiff,↓reduceIte,Nat.reduceAdd,reduceCtorEq,↓Gl]
  refine hed.lends (args':=[slB a,slB b]) ?_ ?_
  ·simp -dsimp (disch:=first | assumption | omega) only [Ag,eq_self]
  rintro _ rfl
  simp -dsimp (disch:=first | assumption | omega | (simp only [Ah];try omega)) only [↓Ai,Ad,Ag,Af,eq_self,Nat.reduceEqDiff,↓reduceIte,reduceCtorEq]
  refine hhv.calls rfl ?_
  rintro _ rfl
  simp -dsimp (disch:=first | assumption | omega | (simp only [Ah];try omega)) only [↓Ai,Ad,Ag,Af,eq_self,Nat.reduceEqDiff,↓reduceIte,Nat.reduceAdd,reduceCtorEq]
  exact Xp (by omega) hE2 hn pl
end
end
section
variable [A8]
set_option maxRecDepth 100000
def Ho:Ae := .seq (.ops [mv_ 65 8,mv_ 66 0,po_ 67 (.b2s (.t 66)),po_ 68 (.bin 9 .eql (.t 65) (.t 67)),mv_ 69 68,⟨some 70,.p (.mov (.t 9)),some ⟨69,true⟩⟩,⟨some 71,.p (.mov (.t 1)),some ⟨69,true⟩⟩,⟨some 72,.p (.b2s (.t 71)),some ⟨69,true⟩⟩,⟨some 73,.p (.bin 9 .eql (.t 70) (.t 72)),some ⟨69,true⟩⟩,po_ 74 (.pick (.t 69) (.t 73) (.c (.bool false))),mv_ 75 74,⟨some 76,.p (.mov (.t 16)),some ⟨75,true⟩⟩,po_ 77 (.pick (.t 75) (.t 76) (.c (.bool false))),mv_ 78 77,⟨some 79,.p (.mov (.t 17)),some ⟨78,true⟩⟩,po_ 80 (.pick (.t 78) (.t 79) (.c (.bool false))),mv_ 81 80,⟨some 82,.p (.mov (.t 13)),some ⟨81,true⟩⟩,⟨some 83,.s (.call 10 [.t 82]),some ⟨81,true⟩⟩,⟨some 84,.p (.bin 31 .eql (.t 83) (ci_ 0)),some ⟨81,true⟩⟩,po_ 85 (.pick (.t 81) (.t 84) (.c (.bool false))),mv_ 86 85,⟨some 87,.p (.mov (.t 15)),some ⟨86,true⟩⟩,⟨some 88,.s (.call 10 [.t 87]),some ⟨86,true⟩⟩,⟨some 89,.p (.bin 31 .eql (.t 88) (ci_ 0)),some ⟨86,true⟩⟩,po_ 90 (.pick (.t 86) (.t 89) (.c (.bool false))),mv_ 91 90,⟨some 92,.p (.mov (.t 18)),some ⟨91,true⟩⟩,⟨some 93,.p (.mov (.t 10)),some ⟨91,true⟩⟩,⟨some 94,.p (.lenV (.t 93)),some ⟨91,true⟩⟩,⟨some 95,.p (.bin 3 .eql (.t 94) (ci_ 0)),some ⟨91,true⟩⟩,⟨some 96,.p (.eqB (.t 92) (.t 95) false),some ⟨91,true⟩⟩,po_ 97 (.pick (.t 91) (.t 96) (.c (.bool false))),mv_ 6 97] [6])
 (.ret)
def H9:Ae := .seq (.ops [mv_ 60 0,po_ 61 (.b2s (.t 60)),mv_ 62 1,po_ 63 (.b2s (.t 62)),po_ 64 (.bin 9 .eql (.t 61) (.t 63)),mv_ 18 64] [0,1,8,9,10,13,15,16,17,18])
 Ho
def H6:Ae := .seq (.ops [mv_ 57 14,mv_ 58 0,so_ 59 (.call 9 [.t 57,.t 58]),mv_ 17 59] [0,1,8,9,10,13,15,16,17])
 H9
def Ia:Ae := .seq (.ops [mv_ 54 12,mv_ 55 1,so_ 56 (.call 9 [.t 54,.t 55]),mv_ 16 56] [0,1,8,9,10,13,14,15,16])
 H6
def H8:Ae := .seq (.ops [mv_ 49 1,mv_ 50 11,so_ 51 (.call 6 [.t 49,.t 50]),mv_ 48 51,po_ 52 (.ext 0 (.t 48)),po_ 53 (.ext 1 (.t 48)),mv_ 14 52,mv_ 15 53] [0,1,8,9,10,12,13,14,15])
 Ia
def HY:Ae := .seq (.ops [mv_ 43 0,mv_ 44 10,so_ 45 (.call 6 [.t 43,.t 44]),mv_ 42 45,po_ 46 (.ext 0 (.t 42)),po_ 47 (.ext 1 (.t 42)),mv_ 12 46,mv_ 13 47] [0,1,8,9,10,11,12,13])
 H8
def Hf:Ae := .seq (.ops [mv_ 38 1,mv_ 39 0,mv_ 40 2,so_ 41 (.call 13 [.t 38,.t 39,.t 40]),mv_ 11 41] [0,1,8,9,10,11])
 HY
def Hz:Ae := .seq (.ops [mv_ 34 0,mv_ 35 1,mv_ 36 2,so_ 37 (.call 13 [.t 34,.t 35,.t 36]),mv_ 10 37] [0,1,2,8,9,10])
 Hf
def Hm:Ae := .seq (.ops [mv_ 32 7,so_ 33 (.call 12 [.t 32,.c (.int .i64 ((1:Nat):Int))]),mv_ 9 33] [0,1,2,8,9])
 Hz
def F8:Ae := .seq (.ops [mv_ 30 7,so_ 31 (.call 12 [.t 30,.c (.int .i64 ((2:Nat):Int))]),mv_ 8 31] [0,1,2,7,8])
 Hm
def GH:Ae := .seq (.ops [mv_ 27 0,mv_ 28 1,so_ 29 (.call 11 [.t 27,.t 28]),mv_ 7 29] [0,1,2,7])
 F8
def F5:Ae := .seq (.seq (.ops [mv_ 19 0,po_ 20 (.lenV (.t 19)),po_ 21 (.bin 3 .gtr (.t 20) (ci_ 4000)),mv_ 22 21,⟨some 23,.p (.mov (.t 1)),some ⟨22,false⟩⟩,⟨some 24,.p (.lenV (.t 23)),some ⟨22,false⟩⟩,⟨some 25,.p (.bin 3 .gtr (.t 24) (ci_ 4000)),some ⟨22,false⟩⟩,po_ 26 (.pick (.t 22) (.c (.bool true)) (.t 25))] [0,1,2,26])
 (.cond (.t 26)
 (.seq (.ops [po_ 6 (.mov (.c (.bool true)))] [6])
  (.ret))
 (.skip)))
 GH
def JS:Ae := .seq (.ops [po_ 6 (.mov (.c (.bool false)))] [0,1,2])
 F5
def Kr:List VR:=[.tmp 6]
theorem Uu:Tryz.f4.body.bind (trC Tryz.prog Tryz.f4.ntmps)=some (er JS):=by kernel_rfl
theorem U9:trR Tryz.prog Tryz.f4.results.toList=some Kr:=by kernel_rfl
def Nz:=Ac Ho.eq_1
def Nw:=Ac H9.eq_1
def ND:=Ac H6.eq_1
def Nu:=Ac Ia.eq_1
def NL:=Ac H8.eq_1
def NC:=Ac HY.eq_1
def Nq:=Ac Hf.eq_1
def Nr:=Ac Hz.eq_1
def NE:=Ac Hm.eq_1
def La:=Ac F8.eq_1
def Lr:=Ac GH.eq_1
def KY:=Ac F5.eq_1
def Rw:=Ac JS.eq_1
theorem RG {K:TV→Prop} {e:Env} {H:List Ob}:res Kr e H K=res [.tmp 6] e H K:=Aa rfl
def AB:=(And.intro (And.intro (And.intro (And.intro @Nz @Nw) (And.intro @ND @Nu)) (And.intro (And.intro @NL @NC) (And.intro @Nq @Nr))) (And.intro (And.intro (And.intro @NE @La) (And.intro @Lr @KY)) (And.intro @Rw @RG)))
def RI:=Gs 98 Tryz.func4 Uu U9 rfl
def J7:Ae := .ops [mv_ 20 5,mv_ 21 0,mv_ 22 6,po_ 23 (.idxA 2 (.t 21) (.t 22)),po_ 24 (.fieldA 1 1 (.t 23)),po_ 25 (.load false 1 (.t 24)),po_ 26 (.bin 9 .add (.t 20) (.t 25)),mv_ 5 26] [0,1,5,6]
def JY:Ae := .seq (.block 1 (.seq (.ops [mv_ 13 0,mv_ 14 6,po_ 15 (.idxA 2 (.t 13) (.t 14)),po_ 16 (.fieldA 0 0 (.t 15)),po_ 17 (.load false 1 (.t 16)),mv_ 18 1,po_ 19 (.bin 36 .neq (.t 17) (.t 18))] [0,1,5,6,19])
 (.cond (.t 19)
 J7
 (.skip))))
 (.ops [mv_ 11 6,po_ 12 (.bin 3 .add (.t 11) (ci_ 1)),mv_ 6 12] [0,1,5,6])
def JZ:Ae := .seq (.seq (.ops [mv_ 7 6,mv_ 8 0,po_ 9 (.lenV (.t 8)),po_ 10 (.bin 3 .lss (.t 7) (.t 9))] [0,1,5,6,10])
 (.cond (.t 10)
 (.skip)
 (.exit 0)))
 JY
def JJ:Ae := .block 0 (.loop [0,1,5,6] JZ)
def J8:Ae := .seq (.ops [mv_ 27 5,mv_ 4 27] [4])
 (.ret)
def J5:Ae := .seq (.seq (.ops [po_ 6 (.mov (ci_ 0))] [0,1,5,6])
 JJ)
 J8
def Kw:Ae := .seq (.ops [po_ 5 (.mov (.c (.string (str []))))] [0,1,5])
 J5
def Qj:Ae := .seq (.ops [po_ 4 (.mov (.c (.string (str []))))] [0,1])
 Kw
def Qo:List VR:=[.tmp 4]
theorem Ym:Tryz.f12.body.bind (trC Tryz.prog Tryz.f12.ntmps)=some (er Qj):=by kernel_rfl
theorem Yo:trR Tryz.prog Tryz.f12.results.toList=some Qo:=by kernel_rfl
def Q3:=Ac J7.eq_1
def QS:=Ac JY.eq_1
def Rk:=Ac JZ.eq_1
def Rf:=Ac JJ.eq_1
def Rj:=Ac J8.eq_1
def Q7:=Ac J5.eq_1
def Q9:=Ac Kw.eq_1
def WC:=Ac Qj.eq_1
theorem Wj {K:TV→Prop} {e:Env} {H:List Ob}:res Qo e H K=res [.tmp 4] e H K:=Aa rfl
def FV:=(And.intro (And.intro (And.intro (And.intro @Q3 @QS) (And.intro @Rk @Rf)) (And.intro (And.intro @Rj @Q7) (And.intro @Q9 @WC))) @Wj)
def XR:=Gs 28 Tryz.func12 Ym Yo rfl
end
section
open Go.RowKit
variable [A8]
theorem AhA {l m:List UInt8} {k:Nat} (h:l.take k=m.take k) (h1:k<l.length) (h2:k<m.length) (e:l[k]=m[k]):l.take (k+1)=m.take (k+1):=by
 rw [List.take_succ_eq_append_getElem h1,List.take_succ_eq_append_getElem h2,h,e]
theorem A2X {x y:UInt8} (h:x≠y):¬ (x.toNat=y.toNat):=fun e=>h (UInt8.toNat_inj.1 e)
theorem same (l m:List UInt8) (hl:l.length≤9223372036854775807) (hm:m.length≤9223372036854775807):CE Tryz.prog 9 [slB l,slB m] (fun x=>x=tb (decide (l=m))):=by
 refine Aq.toPureV (Aa6 (by simp) ?_)
 by_cases hlen:l.length=m.length
 case neg =>
  have hne:l≠m:=fun e=>hlen (by rw [e])
  simp -dsimp (disch:=first | assumption | omega) only [↓Ai,Ad,Ag,Af,eq_self,Nat.reduceEqDiff,↓reduceIte,Nat.reduceAdd,reduceCtorEq,↓IA,decide_eq_false hne]
 simp -dsimp (disch:=first | assumption | omega) only [↓Ai,Ad,Ag,Af,eq_self,Nat.reduceEqDiff,↓reduceIte,Nat.reduceAdd,reduceCtorEq,↓IA]
 refine D6 (fun n e H=>∃ (k:Nat),n=l.length - k∧k≤l.length∧l.take k=m.take k∧e=[(0,slB l),(1,slB m),(5,i64 (k:Int))]∧H=[]) l.length ?_ ?_
 ·exact ⟨0,by simp,by omega,by simp,rfl,rfl⟩
 ·rintro n e H ⟨k,rfl,hk,ht,rfl,rfl⟩
  by_cases hkl:k<l.length
  ·have hkm:k<m.length:=by omega
   have g1:l[k]?=some l[k]:=by simp [hkl]
   have g2:m[k]?=some m[k]:=by simp [hkm]
   by_cases he:l[k]=m[k]
   ·have hx:=AhA ht hkl hkm he
    have he':l[k].toNat=m[k].toNat:=by rw [he]
    simp -dsimp (disch:=first | assumption | omega) only [↓Ai,Ad,Ag,Af,eq_self,Nat.reduceEqDiff,↓reduceIte,reduceCtorEq,↓IA,g1,g2]
    exact BU (l.length - (k+1)) (by omega) (by simp) ⟨k+1,rfl,by omega,hx,rfl,rfl⟩
   ·have he':=A2X he
    have hne:l≠m:=fun e=>he (by subst e; rfl)
    simp -dsimp (disch:=first | assumption | omega) only [↓Ai,Ad,Ag,Af,eq_self,Nat.reduceEqDiff,↓reduceIte,reduceCtorEq,↓IA,g1,g2,decide_eq_false hne]
  ·have hke:k=l.length:=by omega
   have heq:l=m:=by rw [hke,List.take_length,hlen,List.take_length] at ht; exact ht
   simp -dsimp (disch:=first | assumption | omega) only [↓Ai,Ad,Ag,Af,eq_self,Nat.reduceEqDiff,↓reduceIte,reduceCtorEq,↓IA,decide_eq_true heq]
abbrev x85 (l:List UInt8):List UInt8:=l.map (· ^^^ 85)
theorem AkH {c:List UInt8} {k:Nat} (hk:k<c.length):(x85 (c.take k)++c.drop k).set k (c[k] ^^^ 85)=x85 (c.take (k+1))++c.drop (k+1):=by
 have h1:(x85 (c.take k)).length=k:=by simp; omega
 rw [List.set_append_right _ _ (by omega),h1,Nat.sub_self,List.drop_eq_getElem_cons hk,List.set_cons_zero,List.take_succ_eq_append_getElem hk,x85,x85,List.map_append,List.append_assoc]
 rfl
theorem AfG (l:List UInt8) (hl:l.length≤1000000) {H:List Ob} {id ver:Nat} {K:TV→List Ob→Prop} (ho:H[id]?=some (.obj ver (.arr (l.length+2) 1 ((l++[71,72]).map by8))))
  (hk:K (tb true) (H.set id (.obj ver (.arr (l.length+2) 1 ((x85 (l++[71,72])).map by8))))) :
  Aq Tryz.prog 7 [.os 1 id ver [] 0 l.length (l.length+2),slB l] H K:=by
 refine Zm (by simp) ?_
 have hid:id<H.length:=(List.getElem?_eq_some_iff.1 ho).1
 have c2:((l.length:Int)+2)=((l.length+2:Nat):Int):=by omega
 have g1:(l++[71,72])[l.length]?=some 71:=by simp
 have g2:(l++[71,72])[l.length+1]?=some 72:=by simp
 have hL:(l++[71,72]).length=l.length+2:=by simp
 have ht:(l++[71,72]).take l.length=l:=by simp
 generalize hc:l++[71,72]=c at *
 simp -dsimp (disch:=first | assumption | omega | (simp only [Ah];try omega)) only [↓Ai,Ad,Ag,Af,eq_self,Nat.reduceEqDiff,↓reduceIte,Nat.reduceAdd,reduceCtorEq,Nat.reduceLeDiff,↓IX]
 refine (same l l (by omega) (by omega)).lends (args':=[slB l,slB l]) (by simp -dsimp (disch:=first | assumption | omega) only [Ag,Af,eq_self,↓reduceIte,ho,hL,ht]) ?_
 rintro x rfl
 refine ⟨rfl,?_⟩
 rw [show tb (decide (l=l))=tb true from by simp]
 simp -dsimp (disch:=first | assumption | omega | (simp only [Ah];try omega)) only [↓Ai,Ad,Ag,Af,eq_self,Nat.reduceEqDiff,UInt8.reduceToNat,↓reduceIte,↓IX,ho,g1,g2]
 ·refine D6 (fun n e H'=>∃ (k:Nat),n=c.length - k∧k≤c.length∧e=[(6,.os 1 id ver [] 0 (l.length+2) (l.length+2)),(7,tb true),(8,i64 (k:Int))]∧H'=H.set id (.obj ver (.arr (l.length+2) 1 ((x85 (c.take k)++c.drop k).map by8)))) c.length ?_ ?_
  ·refine ⟨0,by simp,by omega,rfl,?_⟩
   have e0:x85 (c.take 0)++c.drop 0=c:=by simp
   obtain ⟨h1,h2⟩:=List.getElem?_eq_some_iff.1 ho
   rw [e0,←h2,List.set_getElem_self]
  ·rintro n e H' ⟨k,rfl,hkl,rfl,rfl⟩
   have gs:∀ o,(H.set id o)[id]?=some o:=fun o=>by simp [hid]
   by_cases hkc:k<c.length
   ·have hk2:k<l.length+2:=by omega
    have hlen:(x85 (c.take k)).length=k:=by simp; omega
    have g3:(x85 (c.take k)++c.drop k)[k]?=some c[k]:=by
     rw [List.getElem?_append_right (by omega),hlen,Nat.sub_self,List.getElem?_drop]; simp [hkc]
    have g4:=AkH hkc
    have h85:∀ (t:TypeId) (x:UInt8),GU t .xor (.int .u8 (x.toNat:Int)) (.int .u8 ((85:Nat):Int))=some (.int .u8 ((x ^^^ 85).toNat:Int)):=fun t x=>Aln (t:=t) (x:=x) (y:=85)
    generalize x85 (c.take k)++c.drop k=r at *
    generalize c[k]=y at *
    simp -dsimp (disch:=first | assumption | omega | (simp only [Ah];try omega)) only [↓Ai,Ad,Ag,Af,eq_self,Nat.reduceEqDiff,↓reduceIte,↓IX,gs,g3,g4,h85,Aj1]
    exact BU (c.length - (k+1)) (by omega) (by simp) ⟨k+1,rfl,by omega,rfl,rfl⟩
   ·have hke:k=c.length:=by omega
    have hk2:¬ k<l.length+2:=by omega
    have e0:x85 (c.take k)++c.drop k=x85 c:=by rw [hke,List.take_length,List.drop_length,List.append_nil]
    have e1:List.drop k c=[]:=by rw [hke,List.drop_length]
    simp -dsimp (disch:=first | assumption | omega | (simp only [Ah];try omega)) only [↓Ai,Ad,Ag,Af,eq_self,Nat.reduceEqDiff,↓reduceIte,↓IX]
    rw [e1,List.append_nil]
    exact hk
end
section
open Go.RowKit
variable [A8]
variable {P:Program}
def Ack (P:Program) (f:FuncId) (args:List TV) (R:TV→Prop) (RP:Value→Prop):Prop :=
 ∀ (β:Nat→Nat→Option (Nat×Nat)) (F:Nat→Prop) (w:World) (vs:List Value),((∀ b,F b→b<w.heap.size)∧EG F w)→Bh ⟨β,[],F⟩ w args vs →
  Calls P f vs.toArray w fun e w'=>∃ F',KE F w F' w'∧((∃ v x,e = .returned v∧R x∧Rep ⟨β,[],fun b=>F' b∧w.heap.size≤b⟩ w' x v)∨∃ u,e = .panicked [{ v:=u,recovered:=false }]∧RP u)
theorem Ack.mono {f:FuncId} {args:List TV} {R R':TV→Prop} {RP RP':Value→Prop} (h:Ack P f args R RP) (hr:∀ x,R x→R' x) (hp:∀ u,RP u→RP' u):Ack P f args R' RP' :=
 fun β F w vs hF hv=>(h β F w vs hF hv).mono fun _ _ ⟨F',h1,h2⟩=>⟨F',h1,h2.imp (fun ⟨v,x,k1,k2,k3⟩=>⟨v,x,k1,hr _ k2,k3⟩) fun ⟨u,k1,k2⟩=>⟨u,k1,hp _ k2⟩⟩
def Aj5 (x x':TV):Prop:=∀ (c:Ctx) (w:World) (v:Value),AdJ c w x v→AdJ c w x' v
inductive Yw:List TV→List TV→Prop
 | nil:Yw [] []
 | cons {x x':TV} {xs xs':List TV}:Aj5 x x'→Yw xs xs'→Yw (x::xs) (x'::xs')
theorem Aj5.refl {x:TV}:Aj5 x x:=fun _ _ _ h=>h
theorem Yw.refl:∀ {xs:List TV},Yw xs xs
 | [] => .nil
 | _::_ => .cons Aj5.refl Yw.refl
theorem Yw.rep {c:Ctx} {w:World} {xs xs':List TV} (h:Yw xs xs'):∀ {vs:List Value},Bh c w xs vs→Bh c w xs' vs:=by
 induction h with
 | nil=>exact fun h=>h
 | cons h1 h2 ih =>
  intro vs hv
  rw [Bh.cons] at hv ⊢
  obtain ⟨u,us,rfl,k1,k2⟩:=hv
  exact ⟨u,us,rfl,h1 _ _ _ k1,ih k2⟩
theorem Yw.tup {xs xs':List TV} (h:Yw xs xs'):∀ (c:Ctx) (w:World) (v:Value),Rep c w (.tup xs) v→Rep c w (.tup xs') v:=by
 rintro c w v ((h1 | h1 | ⟨us,h1,_⟩) | ⟨ys,vs,h1,h2,h3⟩)
 ·cases h1
 ·cases h1
 ·rw [Am] at h1; exact h1.elim
 ·cases h1
  exact .inr ⟨xs',vs,rfl,h2,h.rep h3⟩
end
section
open Go.RowKit
variable [A8]
def AdG (k:Nat) (E:List Ed):List UInt8:=((E.filter fun e=>decide (e.1≠k)).map (·.2)).flatten
theorem Ajv (k:Nat) (E:List Ed) (e:Ed):AdG k (E++[e])=if e.1=k then AdG k E else AdG k E++e.2:=by
 unfold AdG
 by_cases h:e.1=k<;>simp [h]
theorem Adv (k:Nat):∀ E:List Ed,(∀ e∈E,e.2.length≤4000)→(AdG k E).length≤E.length*4000
 | [],_=>by simp [AdG]
 | e::E,h=>by
  have ih:=Adv k E fun x hx=>h x (by simp [hx])
  have h1:=h e (by simp)
  have:(AdG k (e::E)).length≤e.2.length+(AdG k E).length:=by
   unfold AdG
   by_cases h:e.1=k<;>simp [h]
  rw [List.length_cons,Nat.add_mul]; omega
theorem Agt (E:List Ed) (k:Nat) (hE:E.length≤8000) (hE2:∀ e∈E,e.2.length≤4000) (hk:k≤2):CE Tryz.prog 12 [.sl 2 (E.map ed),i64 (k:Int)] (fun x=>x=ts (AdG k E)):=by
 refine Aq.toPureV (XR (by simp) ?_)
 simp -dsimp (disch:=first | assumption | omega | (simp only [Ah];try omega)) only [↓Ai,Ad,Ag,Af,eq_self,Nat.reduceEqDiff,↓reduceIte,Nat.reduceAdd,reduceCtorEq,↓FV]
 refine D6 (fun q e H=>∃ i:Nat,q=E.length - i∧i≤E.length∧e=[(0,.sl 2 (E.map ed)),(1,i64 (k:Int)),(5,ts (AdG k (E.take i))),(6,i64 (i:Int))]∧H=[]) E.length ?_ ?_
 ·exact ⟨0,rfl,by omega,rfl,rfl⟩
 ·rintro q e H ⟨i,rfl,hi,rfl,rfl⟩
  by_cases h:i<E.length
  ·obtain ⟨x,hx⟩:∃ x,E[i]?=some x:=⟨_,List.getElem?_eq_getElem h⟩
   have hs:E.take (i+1)=E.take i++[x]:=by
    obtain ⟨_,rfl⟩:=List.getElem?_eq_some_iff.1 hx
    exact List.take_succ_eq_append_getElem h
   have hx2:=hE2 x (List.mem_of_getElem? hx)
   have hb:=Adv k (E.take i) fun e he=>hE2 e (List.mem_of_mem_take he)
   have hl:(E.take i).length≤8000:=by simp; omega
   have hb2:(E.take i).length*4000≤8000*4000:=Nat.mul_le_mul hl (Nat.le_refl _)
   have hap:=Ajv k (E.take i) x
   rw [←hs] at hap
   generalize AdG k (E.take i)=t at *
   by_cases hk:x.1=k
   ·rw [if_pos hk] at hap
    simp -dsimp (disch:=first | assumption | omega | (simp only [Ah];try omega)) only [↓Ai,Ad,Ag,Af,eq_self,Nat.reduceEqDiff,↓reduceIte,reduceCtorEq,↓FV,hx,Zt,hk]
    exact BU (E.length - (i+1)) (by omega) (by simp) ⟨i+1,rfl,by omega,by rw [hap]; rfl,rfl⟩
   ·rw [if_neg hk] at hap
    have hc1:x.2.length+t.length≤9223372036854775807:=by omega
    simp -dsimp (disch:=first | assumption | omega | (simp only [Ah];try omega)) only [↓Ai,Ad,Ag,Af,eq_self,Nat.reduceEqDiff,↓reduceIte,Nat.reduceAdd,reduceCtorEq,↓FV,hx,Zt,hk,Zr]
    exact BU (E.length - (i+1)) (by omega) (by simp) ⟨i+1,rfl,by omega,by rw [hap]; rfl,rfl⟩
  ·obtain rfl:i=E.length:=by omega
   rw [List.take_length]
   simp -dsimp (disch:=first | assumption | omega | (simp only [Ah];try omega)) only [↓Ai,Ad,Ag,Af,eq_self,Nat.reduceEqDiff,↓reduceIte,reduceCtorEq,↓FV]
variable [BR] [Aj] [AU] [A7] [AL] [Ih]
theorem Aff (a b:List UInt8) (x:Int) (ha:a.length≤140737488351232) (hb:b.length≤140737488351232) (x0 : -9223372036854775808≤x) (x1:x≤9223372036854775807):CE Tryz.prog 4 [slB a,slB b,i64 x] (fun r=>r=tb true):=by
 refine Aq.toPureV (RI (by simp) ?_)
 by_cases h1:4000<a.length
 ·simp -dsimp (disch:=first | assumption | omega | (simp only [Ah];try omega)) only [↓Ai,Ad,Ag,Af,eq_self,Nat.reduceEqDiff,↓reduceIte,Nat.reduceAdd,reduceCtorEq,h1,↓AB]
 by_cases h2:4000<b.length
 ·simp -dsimp (disch:=first | assumption | omega | (simp only [Ah];try omega)) only [↓Ai,Ad,Ag,Af,eq_self,Nat.reduceEqDiff,↓reduceIte,Nat.reduceAdd,reduceCtorEq,h1,h2,↓AB]
 obtain ⟨n,hn⟩:∃ n,ApU x n:=by
  by_cases k1:x<0
  ·exact ⟨0,.inl ⟨k1,rfl⟩,by omega,x0,x1⟩
  by_cases k2:1000<x
  ·exact ⟨1000,.inr (.inr ⟨k2,rfl⟩),by omega,x0,x1⟩
  exact ⟨x.toNat,.inr (.inl (by omega)),by omega,x0,x1⟩
 have hE:=Adq (a:=a) (b:=b) (by omega) (by omega)
 have hE2:=AfO (a:=a) (b:=b) (by omega) (by omega)
 have hed:=(Abp (a:=a) (b:=b) (by omega) (by omega)).pure
 have hp:=(AlF a b x n (by omega) (by omega) hn).pure
 have hq:=(AlF b a x n (by omega) (by omega) hn).pure
 obtain ⟨l1,l2⟩:=AlA (Du a b) (Ak a) (Ak b)
 obtain ⟨p1,p2,p3⟩:=YZ (Du a b) a b n (by omega) (by omega)
 obtain ⟨q1,q2,q3⟩:=YZ (Du b a) b a n (by omega) (by omega)
 have b1:AdG 2 (edx (Du a b) (Ak a) (Ak b))=a:=by
  show (Jw _).flatten=a
  rw [l1,BQ]
 have b2:AdG 1 (edx (Du a b) (Ak a) (Ak b))=b:=by
  show (Y3 _).flatten=b
  rw [l2,BQ]
 have j1:=Agt _ 2 hE (fun e he=>(hE2 e he).2.1) (by omega)
 have j2:=Agt _ 1 hE (fun e he=>(hE2 e he).2.1) (by omega)
 rw [b1] at j1
 rw [b2] at j2
 generalize edx (Du a b) (Ak a) (Ak b)=E at *
 generalize EX E n=P at *
 generalize EX (edx (Du b a) (Ak b) (Ak a)) n=Q at *
 have ap1:=(Ale a P (by omega) (by omega)).pure
 have ap2:=(Ale b Q (by omega) (by omega)).pure
 simp -dsimp (disch:=first | assumption | omega | (simp only [Ah];try omega)) only [↓Ai,Ad,Ag,Af,eq_self,Nat.reduceEqDiff,↓reduceIte,Nat.reduceAdd,reduceCtorEq,h1,h2,↓AB]
 refine hed.calls rfl ?_
 rintro _ rfl
 simp -dsimp (disch:=first | assumption | omega | (simp only [Ah];try omega)) only [↓Ai,Ad,Ag,Af,eq_self,Nat.reduceEqDiff,↓reduceIte,reduceCtorEq,↓AB]
 refine j1.calls rfl ?_
 rintro _ rfl
 simp -dsimp (disch:=first | assumption | omega | (simp only [Ah];try omega)) only [↓Ai,Ad,Ag,Af,eq_self,Nat.reduceEqDiff,↓reduceIte,reduceCtorEq,↓AB]
 refine j2.calls rfl ?_
 rintro _ rfl
 simp -dsimp (disch:=first | assumption | omega | (simp only [Ah];try omega)) only [↓Ai,Ad,Ag,Af,eq_self,Nat.reduceEqDiff,↓reduceIte,reduceCtorEq,↓AB]
 refine hp.calls rfl ?_
 rintro _ rfl
 simp -dsimp (disch:=first | assumption | omega | (simp only [Ah];try omega)) only [↓Ai,Ad,Ag,Af,eq_self,Nat.reduceEqDiff,↓reduceIte,reduceCtorEq,↓AB]
 refine hq.calls rfl ?_
 rintro _ rfl
 simp -dsimp (disch:=first | assumption | omega | (simp only [Ah];try omega)) only [↓Ai,Ad,Ag,Af,eq_self,Nat.reduceEqDiff,↓reduceIte,reduceCtorEq,↓AB]
 refine ap1.calls rfl fun r hr => ?_
 rw [hr.1 b p1]
 simp -dsimp (disch:=first | assumption | omega | (simp only [Ah];try omega)) only [↓Ai,Ad,Ag,Af,eq_self,Nat.reduceEqDiff,↓reduceIte,reduceCtorEq,↓AB]
 refine ap2.calls rfl fun r hr => ?_
 rw [hr.1 a q1]
 simp -dsimp (disch:=first | assumption | omega | (simp only [Ah];try omega)) only [↓Ai,Ad,Ag,Af,eq_self,Nat.reduceEqDiff,↓reduceIte,reduceCtorEq,↓AB]
 refine (same b b (by omega) (by omega)).calls rfl fun r hr => ?_
 subst hr
 simp -dsimp (disch:=first | assumption | omega | (simp only [Ah];try omega)) only [↓Ai,Ad,Ag,Af,eq_self,Nat.reduceEqDiff,↓reduceIte,reduceCtorEq,↓AB]
 refine (same a a (by omega) (by omega)).calls rfl fun r hr => ?_
 subst hr
 have p0:(P.length=0)↔a=b:=by rw [←p3,List.length_eq_zero_iff]
 by_cases hab:a=b
 ·subst hab
  have hP:P.length=0:=p0.2 rfl
  simp -dsimp (disch:=first | assumption | omega | (simp only [Ah];try omega)) only [↓Ai,Ad,Ag,Af,eq_self,Nat.reduceEqDiff,↓reduceIte,reduceCtorEq,↓AB]
  refine Ah2.calls rfl fun r hr => ?_
  subst hr
  simp -dsimp (disch:=first | assumption | omega | (simp only [Ah];try omega)) only [↓Ai,Ad,Ag,Af,eq_self,Nat.reduceEqDiff,↓reduceIte,reduceCtorEq]
  refine Ah2.calls rfl fun r hr => ?_
  subst hr
  simp -dsimp (disch:=first | assumption | omega | (simp only [Ah];try omega)) only [↓Ai,Ad,Ag,Af,eq_self,Nat.reduceEqDiff,↓reduceIte,reduceCtorEq,hP,↓AB]
  rfl
 ·have hP:¬ P.length=0:=fun h=>hab (p0.1 h)
  simp -dsimp (disch:=first | assumption | omega | (simp only [Ah];try omega)) only [↓Ai,Ad,Ag,Af,eq_self,Nat.reduceEqDiff,↓reduceIte,reduceCtorEq,hab,↓AB]
  refine Ah2.calls rfl fun r hr => ?_
  subst hr
  simp -dsimp (disch:=first | assumption | omega | (simp only [Ah];try omega)) only [↓Ai,Ad,Ag,Af,eq_self,Nat.reduceEqDiff,↓reduceIte,reduceCtorEq]
  refine Ah2.calls rfl fun r hr => ?_
  subst hr
  simp -dsimp (disch:=first | assumption | omega | (simp only [Ah];try omega)) only [↓Ai,Ad,Ag,Af,eq_self,Nat.reduceEqDiff,↓reduceIte,reduceCtorEq,hP,↓AB]
  rfl
end
end Go.Proofs.YtkoilgokgaigbaaGreatDoor
namespace Go.Proofs.YtkoilgokgaigbaaGreatDoor.diffRound
open Go.ChangeShapes Go.WideShapes Go.ChangeAt Go.RowKit
theorem own:ownKnob Tryz.prog.godebug=none:=by kernel_rfl
mutual
def Am0:DataW Unit→List Value
 | .lit (.int k n)=>[.int k n]
 | .lit (.string l)=>[.string ⟨l.toArray⟩]
 | .agg l=>Aqt l
 | _=>[]
def Aqt:List (DataW Unit)→List Value
 | []=>[]
 | d::l=>Am0 d++Aqt l
end
abbrev giM (t0:TypeId) (a0:Addr) (t1:TypeId) (a1:Addr) (m:Int):A8:=⟨[(0,Cm),(8,Bf),(9,Be),(3,AC),(1,BC),(5,GV.one (.iface t0 (.pointer (some a0)))),(4,GV.one (.iface t1 (.pointer (some a1)))),(2,GV.one (.int .i64 m))],by kernel_rfl⟩
theorem RQ (t0:TypeId) (a0:Addr) (t1:TypeId) (a1:Addr) (m:Int):@BR (giM t0 a0 t1 a1 m):=@BR.mk (giM t0 a0 t1 a1 m) (by kernel_rfl)
theorem Jz (t0:TypeId) (a0:Addr) (t1:TypeId) (a1:Addr) (m:Int):@CY (giM t0 a0 t1 a1 m):=@CY.mk (giM t0 a0 t1 a1 m) (by kernel_rfl)
theorem Js (t0:TypeId) (a0:Addr) (t1:TypeId) (a1:Addr) (m:Int):@CX (giM t0 a0 t1 a1 m):=@CX.mk (giM t0 a0 t1 a1 m) (by kernel_rfl)
theorem Gw (t0:TypeId) (a0:Addr) (t1:TypeId) (a1:Addr) (m:Int):@Aj (giM t0 a0 t1 a1 m):=@Aj.mk (giM t0 a0 t1 a1 m) (by kernel_rfl)
theorem P7 (t0:TypeId) (a0:Addr) (t1:TypeId) (a1:Addr) (m:Int):@AL (giM t0 a0 t1 a1 m):=@AL.mk (giM t0 a0 t1 a1 m) (by kernel_rfl)
theorem TQ (t0:TypeId) (a0:Addr) (t1:TypeId) (a1:Addr) (m:Int):@A7 (giM t0 a0 t1 a1 m):=@A7.mk (giM t0 a0 t1 a1 m) ⟨t0,a0,by kernel_rfl⟩
theorem QR (t0:TypeId) (a0:Addr) (t1:TypeId) (a1:Addr) (m:Int):@AU (giM t0 a0 t1 a1 m):=@AU.mk (giM t0 a0 t1 a1 m) ⟨t1,a1,by kernel_rfl⟩
theorem et:Tryz.prog.globalNamed "errors.errorType" = some 0:=by kernel_rfl
theorem rt:(Tryz.prog.cutTypes.find? (·.1 == "internal/reflectlite.rtype")).map (·.2)=some 112:=by kernel_rfl
theorem Aqh:((List.range Tryz.prog.types.size).filter fun t=>Tryz.prog.rowNamed t [101,114,114,111,114])=[25]:=by kernel_rfl
theorem YC {W:World} (h:handlesMet Tryz.prog [("errors.errorType", Rows.laid_errors_errorType)] W):∃ t fr,W.heap[0]?=some (.cells Cm.cells.toArray t fr):=by
 obtain ⟨name,u,ty,e1,e2,e3,e4,e5⟩:=h _ (List.mem_singleton.2 rfl)
 have en:name=[101,114,114,111,114]:=(Option.some.inj e1).symm
 subst en
 obtain rfl:=Option.some.inj (rt.symm.trans e2)
 have hm:ty∈(List.range Tryz.prog.types.size).filter fun t=>Tryz.prog.rowNamed t [101,114,114,111,114]:=List.mem_filter.2 ⟨List.mem_range.2 e3,e4⟩
 rw [Aqh] at hm
 obtain rfl:=List.mem_singleton.1 hm
 have hh:typeHandle Tryz.prog 25 = .pointer (some ⟨10,25,none⟩):=by kernel_rfl
 rw [hh] at e5
 exact Aar et e5
def IR:List (DataW Unit):=[.lit (.int .u8 0),.lit (.int .u8 1),.lit (.int .u8 28),.lit (.int .u8 2),.lit (.int .u8 29),.lit (.int .u8 14),.lit (.int .u8 24),.lit (.int .u8 3),.lit (.int .u8 30),.lit (.int .u8 22),.lit (.int .u8 20),.lit (.int .u8 15),.lit (.int .u8 25),.lit (.int .u8 17),.lit (.int .u8 4),.lit (.int .u8 8),.lit (.int .u8 31),.lit (.int .u8 27),.lit (.int .u8 13),.lit (.int .u8 23),.lit (.int .u8 21),.lit (.int .u8 19),.lit (.int .u8 16),.lit (.int .u8 7),.lit (.int .u8 26),.lit (.int .u8 12),.lit (.int .u8 18),.lit (.int .u8 6),.lit (.int .u8 11),.lit (.int .u8 5),.lit (.int .u8 10),.lit (.int .u8 9)]
theorem IQ {W:World} (h:laidMet Tryz.prog [("math/bits.deBruijn32tab", Rows.laid_math_bits_deBruijn32tab),("math/bits.deBruijn64tab", Rows.laid_math_bits_deBruijn64tab),("internal/strconv.uint64pow10", Rows.laid_internal_strconv_uint64pow10),("unicode/utf8.acceptRanges", Rows.laid_unicode_utf8_acceptRanges),("strconv.ErrRange", Rows.laid_strconv_ErrRange),("strconv.ErrSyntax", Rows.laid_strconv_ErrSyntax),("gitlike/diff.signs", Rows.laid_gitlike_diff_signs),("unicode/utf8.first", Rows.laid_unicode_utf8_first)] W):∃ t fr,W.heap[8]?=some (.cells Bf.cells.toArray t fr) :=
 WV (t:=(Tryz.prog.globals[8]?).elim 0 (·.type)) (e:=match Tryz.prog.underlying ((Tryz.prog.globals[8]?).elim 0 (·.type)) with | some (.array _ e)=>e | _=>0) (n:=Bf.cells.length) h (List.mem_of_getElem? (i:=0) (show [("math/bits.deBruijn32tab", Rows.laid_math_bits_deBruijn32tab),("math/bits.deBruijn64tab", Rows.laid_math_bits_deBruijn64tab),("internal/strconv.uint64pow10", Rows.laid_internal_strconv_uint64pow10),("unicode/utf8.acceptRanges", Rows.laid_unicode_utf8_acceptRanges),("strconv.ErrRange", Rows.laid_strconv_ErrRange),("strconv.ErrSyntax", Rows.laid_strconv_ErrSyntax),("gitlike/diff.signs", Rows.laid_gitlike_diff_signs),("unicode/utf8.first", Rows.laid_unicode_utf8_first)][0]?=some ("math/bits.deBruijn32tab", DataW.agg IR) by kernel_rfl)) (by kernel_rfl) (by kernel_rfl) (by kernel_rfl) (by kernel_rfl) (by kernel_rfl) (by kernel_rfl) (by kernel_rfl)
def IM:List (DataW Unit):=[.lit (.int .u8 0),.lit (.int .u8 1),.lit (.int .u8 56),.lit (.int .u8 2),.lit (.int .u8 57),.lit (.int .u8 49),.lit (.int .u8 28),.lit (.int .u8 3),.lit (.int .u8 61),.lit (.int .u8 58),.lit (.int .u8 42),.lit (.int .u8 50),.lit (.int .u8 38),.lit (.int .u8 29),.lit (.int .u8 17),.lit (.int .u8 4),.lit (.int .u8 62),.lit (.int .u8 47),.lit (.int .u8 59),.lit (.int .u8 36),.lit (.int .u8 45),.lit (.int .u8 43),.lit (.int .u8 51),.lit (.int .u8 22),.lit (.int .u8 53),.lit (.int .u8 39),.lit (.int .u8 33),.lit (.int .u8 30),.lit (.int .u8 24),.lit (.int .u8 18),.lit (.int .u8 12),.lit (.int .u8 5),.lit (.int .u8 63),.lit (.int .u8 55),.lit (.int .u8 48),.lit (.int .u8 27),.lit (.int .u8 60),.lit (.int .u8 41),.lit (.int .u8 37),.lit (.int .u8 16),.lit (.int .u8 46),.lit (.int .u8 35),.lit (.int .u8 44),.lit (.int .u8 21),.lit (.int .u8 52),.lit (.int .u8 32),.lit (.int .u8 23),.lit (.int .u8 11),.lit (.int .u8 54),.lit (.int .u8 26),.lit (.int .u8 40),.lit (.int .u8 15),.lit (.int .u8 34),.lit (.int .u8 20),.lit (.int .u8 31),.lit (.int .u8 10),.lit (.int .u8 25),.lit (.int .u8 14),.lit (.int .u8 19),.lit (.int .u8 9),.lit (.int .u8 13),.lit (.int .u8 8),.lit (.int .u8 7),.lit (.int .u8 6)]
theorem IL {W:World} (h:laidMet Tryz.prog [("math/bits.deBruijn32tab", Rows.laid_math_bits_deBruijn32tab),("math/bits.deBruijn64tab", Rows.laid_math_bits_deBruijn64tab),("internal/strconv.uint64pow10", Rows.laid_internal_strconv_uint64pow10),("unicode/utf8.acceptRanges", Rows.laid_unicode_utf8_acceptRanges),("strconv.ErrRange", Rows.laid_strconv_ErrRange),("strconv.ErrSyntax", Rows.laid_strconv_ErrSyntax),("gitlike/diff.signs", Rows.laid_gitlike_diff_signs),("unicode/utf8.first", Rows.laid_unicode_utf8_first)] W):∃ t fr,W.heap[9]?=some (.cells Be.cells.toArray t fr) :=
 WV (t:=(Tryz.prog.globals[9]?).elim 0 (·.type)) (e:=match Tryz.prog.underlying ((Tryz.prog.globals[9]?).elim 0 (·.type)) with | some (.array _ e)=>e | _=>0) (n:=Be.cells.length) h (List.mem_of_getElem? (i:=1) (show [("math/bits.deBruijn32tab", Rows.laid_math_bits_deBruijn32tab),("math/bits.deBruijn64tab", Rows.laid_math_bits_deBruijn64tab),("internal/strconv.uint64pow10", Rows.laid_internal_strconv_uint64pow10),("unicode/utf8.acceptRanges", Rows.laid_unicode_utf8_acceptRanges),("strconv.ErrRange", Rows.laid_strconv_ErrRange),("strconv.ErrSyntax", Rows.laid_strconv_ErrSyntax),("gitlike/diff.signs", Rows.laid_gitlike_diff_signs),("unicode/utf8.first", Rows.laid_unicode_utf8_first)][1]?=some ("math/bits.deBruijn64tab", DataW.agg IM) by kernel_rfl)) (by kernel_rfl) (by kernel_rfl) (by kernel_rfl) (by kernel_rfl) (by kernel_rfl) (by kernel_rfl) (by kernel_rfl)
def FP:List (DataW Unit):=[.lit (.int .u64 1),.lit (.int .u64 10),.lit (.int .u64 100),.lit (.int .u64 1000),.lit (.int .u64 10000),.lit (.int .u64 100000),.lit (.int .u64 1000000),.lit (.int .u64 10000000),.lit (.int .u64 100000000),.lit (.int .u64 1000000000),.lit (.int .u64 10000000000),.lit (.int .u64 100000000000),.lit (.int .u64 1000000000000),.lit (.int .u64 10000000000000),.lit (.int .u64 100000000000000),.lit (.int .u64 1000000000000000),.lit (.int .u64 10000000000000000),.lit (.int .u64 100000000000000000),.lit (.int .u64 1000000000000000000),.lit (.int .u64 10000000000000000000)]
theorem FN {W:World} (h:laidMet Tryz.prog [("math/bits.deBruijn32tab", Rows.laid_math_bits_deBruijn32tab),("math/bits.deBruijn64tab", Rows.laid_math_bits_deBruijn64tab),("internal/strconv.uint64pow10", Rows.laid_internal_strconv_uint64pow10),("unicode/utf8.acceptRanges", Rows.laid_unicode_utf8_acceptRanges),("strconv.ErrRange", Rows.laid_strconv_ErrRange),("strconv.ErrSyntax", Rows.laid_strconv_ErrSyntax),("gitlike/diff.signs", Rows.laid_gitlike_diff_signs),("unicode/utf8.first", Rows.laid_unicode_utf8_first)] W):∃ t fr,W.heap[3]?=some (.cells AC.cells.toArray t fr) :=
 WV (t:=(Tryz.prog.globals[3]?).elim 0 (·.type)) (e:=match Tryz.prog.underlying ((Tryz.prog.globals[3]?).elim 0 (·.type)) with | some (.array _ e)=>e | _=>0) (n:=AC.cells.length) h (List.mem_of_getElem? (i:=2) (show [("math/bits.deBruijn32tab", Rows.laid_math_bits_deBruijn32tab),("math/bits.deBruijn64tab", Rows.laid_math_bits_deBruijn64tab),("internal/strconv.uint64pow10", Rows.laid_internal_strconv_uint64pow10),("unicode/utf8.acceptRanges", Rows.laid_unicode_utf8_acceptRanges),("strconv.ErrRange", Rows.laid_strconv_ErrRange),("strconv.ErrSyntax", Rows.laid_strconv_ErrSyntax),("gitlike/diff.signs", Rows.laid_gitlike_diff_signs),("unicode/utf8.first", Rows.laid_unicode_utf8_first)][2]?=some ("internal/strconv.uint64pow10", DataW.agg FP) by kernel_rfl)) (by kernel_rfl) (by kernel_rfl) (by kernel_rfl) (by kernel_rfl) (by kernel_rfl) (by kernel_rfl) (by kernel_rfl)
def Oo:List (DataW Unit):=[.lit (.string [32]),.lit (.string [45]),.lit (.string [43])]
theorem OT {W:World} (h:laidMet Tryz.prog [("math/bits.deBruijn32tab", Rows.laid_math_bits_deBruijn32tab),("math/bits.deBruijn64tab", Rows.laid_math_bits_deBruijn64tab),("internal/strconv.uint64pow10", Rows.laid_internal_strconv_uint64pow10),("unicode/utf8.acceptRanges", Rows.laid_unicode_utf8_acceptRanges),("strconv.ErrRange", Rows.laid_strconv_ErrRange),("strconv.ErrSyntax", Rows.laid_strconv_ErrSyntax),("gitlike/diff.signs", Rows.laid_gitlike_diff_signs),("unicode/utf8.first", Rows.laid_unicode_utf8_first)] W):∃ t fr,W.heap[1]?=some (.cells BC.cells.toArray t fr) :=
 WV (t:=(Tryz.prog.globals[1]?).elim 0 (·.type)) (e:=match Tryz.prog.underlying ((Tryz.prog.globals[1]?).elim 0 (·.type)) with | some (.array _ e)=>e | _=>0) (n:=BC.cells.length) h (List.mem_of_getElem? (i:=6) (show [("math/bits.deBruijn32tab", Rows.laid_math_bits_deBruijn32tab),("math/bits.deBruijn64tab", Rows.laid_math_bits_deBruijn64tab),("internal/strconv.uint64pow10", Rows.laid_internal_strconv_uint64pow10),("unicode/utf8.acceptRanges", Rows.laid_unicode_utf8_acceptRanges),("strconv.ErrRange", Rows.laid_strconv_ErrRange),("strconv.ErrSyntax", Rows.laid_strconv_ErrSyntax),("gitlike/diff.signs", Rows.laid_gitlike_diff_signs),("unicode/utf8.first", Rows.laid_unicode_utf8_first)][6]?=some ("gitlike/diff.signs", DataW.agg Oo) by kernel_rfl)) (by kernel_rfl) (by kernel_rfl) (by kernel_rfl) (by kernel_rfl) (by kernel_rfl) (by kernel_rfl) (by kernel_rfl)
theorem A32 : "*" ++ "errors.errorString" = "*errors.errorString" := by decide
theorem Ali (u:TypeId) (h:Tryz.prog.typeName? 3 u=some "*errors.errorString"):u=185 :=
 typeName_ptr_named (nm := "errors.errorString") (by rw [A32]; kernel_rfl) (by kernel_rfl) (by decide) u (by rw [A32]; exact h)
theorem PR {W:World} (h:laidMet Tryz.prog [("math/bits.deBruijn32tab", Rows.laid_math_bits_deBruijn32tab),("math/bits.deBruijn64tab", Rows.laid_math_bits_deBruijn64tab),("internal/strconv.uint64pow10", Rows.laid_internal_strconv_uint64pow10),("unicode/utf8.acceptRanges", Rows.laid_unicode_utf8_acceptRanges),("strconv.ErrRange", Rows.laid_strconv_ErrRange),("strconv.ErrSyntax", Rows.laid_strconv_ErrSyntax),("gitlike/diff.signs", Rows.laid_gitlike_diff_signs),("unicode/utf8.first", Rows.laid_unicode_utf8_first)] W):∃ (a:Addr) (t:TypeId) (fr:Nat×Nat),W.heap[5]?=some (.cells #[.iface 185 (.pointer (some a))] t fr):=by
 have h2:laidMet Tryz.prog (("strconv.ErrRange", DataW.iface "*errors.errorString" (.ptr (.agg [.lit (.string [118,97,108,117,101,32,111,117,116,32,111,102,32,114,97,110,103,101])])))::[("strconv.ErrSyntax", Rows.laid_strconv_ErrSyntax),("gitlike/diff.signs", Rows.laid_gitlike_diff_signs),("unicode/utf8.first", Rows.laid_unicode_utf8_first)]) W:=h.tail.tail.tail.tail
 have hg:Tryz.prog.globalNamed "strconv.ErrRange" = some 5:=by kernel_rfl
 obtain ⟨a,s,hv,_⟩:=laid_sentinel h2 hg (show (Tryz.prog.globals[5]?).map (·.type)=some 25 by kernel_rfl) Tryz.underlying25 Ali Tryz.underlying185 Tryz.underlying187 rfl rfl Tryz.underlying9 (by kernel_rfl) (by kernel_rfl)
 exact ⟨a,Aar hg hv⟩
theorem Og {W:World} (h:laidMet Tryz.prog [("math/bits.deBruijn32tab", Rows.laid_math_bits_deBruijn32tab),("math/bits.deBruijn64tab", Rows.laid_math_bits_deBruijn64tab),("internal/strconv.uint64pow10", Rows.laid_internal_strconv_uint64pow10),("unicode/utf8.acceptRanges", Rows.laid_unicode_utf8_acceptRanges),("strconv.ErrRange", Rows.laid_strconv_ErrRange),("strconv.ErrSyntax", Rows.laid_strconv_ErrSyntax),("gitlike/diff.signs", Rows.laid_gitlike_diff_signs),("unicode/utf8.first", Rows.laid_unicode_utf8_first)] W):∃ (a:Addr) (t:TypeId) (fr:Nat×Nat),W.heap[4]?=some (.cells #[.iface 185 (.pointer (some a))] t fr):=by
 have h2:laidMet Tryz.prog (("strconv.ErrSyntax", DataW.iface "*errors.errorString" (.ptr (.agg [.lit (.string [105,110,118,97,108,105,100,32,115,121,110,116,97,120])])))::[("gitlike/diff.signs", Rows.laid_gitlike_diff_signs),("unicode/utf8.first", Rows.laid_unicode_utf8_first)]) W:=h.tail.tail.tail.tail.tail
 have hg:Tryz.prog.globalNamed "strconv.ErrSyntax" = some 4:=by kernel_rfl
 obtain ⟨a,s,hv,_⟩:=laid_sentinel h2 hg (show (Tryz.prog.globals[4]?).map (·.type)=some 25 by kernel_rfl) Tryz.underlying25 Ali Tryz.underlying185 Tryz.underlying187 rfl rfl Tryz.underlying9 (by kernel_rfl) (by kernel_rfl)
 exact ⟨a,Aar hg hv⟩
theorem AaQ {W:World} (h:laidMetH Tryz.prog Rows.diffRoundRow.laid W) (hsh:W.ShapedOpen Tryz.prog):∃ t0 a0 t1 a1 m,@EG (giM t0 a0 t1 a1 m) (fun b=>b<W.heap.size) W:=by
 have h':laidMet Tryz.prog [("math/bits.deBruijn32tab", Rows.laid_math_bits_deBruijn32tab),("math/bits.deBruijn64tab", Rows.laid_math_bits_deBruijn64tab),("internal/strconv.uint64pow10", Rows.laid_internal_strconv_uint64pow10),("unicode/utf8.acceptRanges", Rows.laid_unicode_utf8_acceptRanges),("strconv.ErrRange", Rows.laid_strconv_ErrRange),("strconv.ErrSyntax", Rows.laid_strconv_ErrSyntax),("gitlike/diff.signs", Rows.laid_gitlike_diff_signs),("unicode/utf8.first", Rows.laid_unicode_utf8_first)] W∧handlesMet Tryz.prog [("errors.errorType", Rows.laid_errors_errorType)] W:=h
 obtain ⟨a0,e0⟩:=PR h'.1
 obtain ⟨a1,e1⟩:=Og h'.1
 obtain ⟨m,tt,fr,hh⟩:=Aak (k := .i64) (zero := #[.int .i64 0]) (g:=2) (t:=3) hsh (of_decide_eq_true (by kernel_rfl)) (by kernel_rfl) rfl (by kernel_rfl) (by kernel_rfl) Tryz.underlying3
 refine ⟨185,a0,185,a1,m,?_⟩
 letI:=giM 185 a0 185 a1 m
 intro g x hx
 have hm:=AeW hx
 have hm':(g,x)∈([(0,Cm),(8,Bf),(9,Be),(3,AC),(1,BC),(5,GV.one (.iface 185 (.pointer (some a0)))),(4,GV.one (.iface 185 (.pointer (some a1)))),(2,GV.one (.int .i64 m))]:List (Nat×GV)):=hm
 simp only [List.mem_cons,List.mem_nil_iff,or_false,Prod.mk.injEq] at hm'
 have key:∃ t fr,W.heap[g]?=some (.cells x.cells.toArray t fr):=by
  rcases hm' with ⟨rfl,rfl⟩ | ⟨rfl,rfl⟩ | ⟨rfl,rfl⟩ | ⟨rfl,rfl⟩ | ⟨rfl,rfl⟩ | ⟨rfl,rfl⟩ | ⟨rfl,rfl⟩ | ⟨rfl,rfl⟩
  ·exact YC h'.2
  ·exact IQ h'.1
  ·exact IL h'.1
  ·exact FN h'.1
  ·exact OT h'.1
  ·exact e0
  ·exact e1
  ·exact ⟨tt,fr,hh⟩
 obtain ⟨t,fr,hk⟩:=key
 exact ⟨(Array.getElem?_eq_some_iff.1 hk).1,t,fr,hk⟩
noncomputable def Abw (os:Os):World :=
 let w0:=World.holding Tryz.prog os ⟨#[],#[.slice none 0 0,.slice none 0 0,.int .i64 0],[]⟩
 let w1:={ w0 with heap:=w0.heap.modify 0 fun
   | .cells _ t frozen => .cells Cm.cells.toArray t frozen
   | o=>o }
 let w2:={ w1 with heap:=w1.heap.modify 8 fun
   | .cells _ t frozen => .cells Bf.cells.toArray t frozen
   | o=>o }
 let w3:={ w2 with heap:=w2.heap.modify 9 fun
   | .cells _ t frozen => .cells Be.cells.toArray t frozen
   | o=>o }
 let w4:={ w3 with heap:=w3.heap.modify 3 fun
   | .cells _ t frozen => .cells AC.cells.toArray t frozen
   | o=>o }
 let w5:={ w4 with heap:=w4.heap.modify 1 fun
   | .cells _ t frozen => .cells BC.cells.toArray t frozen
   | o=>o }
 let w6:={ w5 with heap:=w5.heap.modify 7 fun
   | .cells _ t frozen => .cells (Am0 Rows.laid_unicode_utf8_acceptRanges).toArray t frozen
   | o=>o }
 let w7:={ w6 with heap:=w6.heap.modify 6 fun
   | .cells _ t frozen => .cells (Am0 Rows.laid_unicode_utf8_first).toArray t frozen
   | o=>o }
 let w8:={ w7 with heap:=(w7.heap.push (.cells #[.string ⟨([118,97,108,117,101,32,111,117,116,32,111,102,32,114,97,110,103,101]:List UInt8).toArray⟩] 187 (0,0))).modify 5 fun
   | .cells _ t frozen => .cells #[.iface 185 (.pointer (some ⟨w7.heap.size,0,none⟩))] t frozen
   | o=>o }
 let w9:={ w8 with heap:=(w8.heap.push (.cells #[.string ⟨([105,110,118,97,108,105,100,32,115,121,110,116,97,120]:List UInt8).toArray⟩] 187 (0,0))).modify 4 fun
   | .cells _ t frozen => .cells #[.iface 185 (.pointer (some ⟨w8.heap.size,0,none⟩))] t frozen
   | o=>o }
 w9
theorem Aac (os:Os) (args:Array Value):laidMetH Tryz.prog Rows.diffRoundRow.laid ((Abw os).forCall (fun _ _=>0) ⟨#[],args,[]⟩).memory :=
 laidMetH_of_parts (laidMet_of_run' 8 (by kernel_rfl) (by kernel_rfl)) (by kernel_rfl)
theorem Amn:laidOutB Tryz.prog=true∧mapsRowed Tryz.prog=true :=
 have H:=ClosedOfChecked.allSpec_of Tryz.checked.wellFormed (by kernel_rfl:Tryz.checked.prog.types=Tryz.checked.src.types)
 ⟨ClosedOfChecked.laidOutB_of H (by kernel_rfl),ClosedOfChecked.mapsRowed_of H⟩
theorem Ef {a b:Bool} (h:a=true) (k:b=true):(a && b)=true:=by rw [h,k]; rfl
theorem AsU:(Rows.diffRoundRow.wf (OpenSpec.ofChange Rows.diffRoundSpec))=true:=by kernel_rfl
theorem AsX:(laidOutB Tryz.prog)=true:=Amn.1
theorem A3a:(mapsRowed Tryz.prog)=true:=Amn.2
theorem ArZ:(Tryz.f4.params.all (Tryz.prog.readableRec ·))=true:=by kernel_rfl
theorem A3d:(namedTie Tryz.prog Rows.diffRoundRow.named Rows.diffRoundSpec.vars)=true:=by kernel_rfl
theorem A3p:((Rows.diffRoundRow.stops == []))=true:=by kernel_rfl
theorem AsW:((Tryz.prog.stops == []))=true:=by kernel_rfl
theorem ArP:((Rows.diffRoundRow.knobs == []))=true:=by kernel_rfl
theorem ArT:((Tryz.prog.stopKnobs == []))=true:=by kernel_rfl
theorem Asj:((Rows.diffRoundRow.inPlace == Tryz.prog.inPlace 4))=true:=by kernel_rfl
theorem AqP:((Rows.diffRoundRow.unfollowed == Tryz.prog.unfollowed 4))=true:=by kernel_rfl
theorem Apj:((Rows.diffRoundRow.recurses == Tryz.prog.recurses 4))=true:=by kernel_rfl
theorem Apu:((Rows.diffRoundRow.named == Tryz.prog.varsNamed 4))=true:=by kernel_rfl
theorem Aq0:((Rows.diffRoundRow.maps == (Tryz.f4.params.toList++Rows.diffRoundSpec.plain.varTypes Tryz.prog).any (Tryz.prog.mapsRec ·)))=true:=by kernel_rfl
theorem Apt:((Rows.diffRoundRow.ifaces == (Tryz.f4.params.toList++Rows.diffRoundSpec.plain.varTypes Tryz.prog).any (Tryz.prog.ifacesRec ·)))=true:=by kernel_rfl
theorem Apr:((Rows.diffRoundRow.mapsOut == Tryz.prog.mapsAmong Tryz.f4.resultTypes.toList))=true:=by kernel_rfl
theorem Aq5:((Rows.diffRoundRow.loops == (Tryz.f4.params.toList++Rows.diffRoundSpec.plain.varTypes Tryz.prog).any (Tryz.prog.loopsFrom ·)))=true:=by kernel_rfl
theorem ApJ:((Rows.diffRoundRow.wideKeys == (Tryz.f4.params.toList++Rows.diffRoundSpec.plain.varTypes Tryz.prog++Tryz.f4.resultTypes.toList).any (Tryz.prog.wideKeysFrom ·)))=true:=by kernel_rfl
theorem Ao4:(Rows.diffRoundSpec.vars.all (Tryz.prog.varReadable ·))=true:=by kernel_rfl
theorem Ap0:(Tryz.f4.resultTypes.all (fun t=>Tryz.prog.readableRec t && decide (t<Tryz.prog.types.size)))=true:=by kernel_rfl
theorem ApN:((Rows.diffRoundRow.ifacesOut == Tryz.f4.resultTypes.toList.any (Tryz.prog.ifacesRec ·)))=true:=by kernel_rfl
theorem AoZ:((Rows.diffRoundRow.loopsOut == Tryz.f4.resultTypes.toList.any (Tryz.prog.loopsFrom ·)))=true:=by kernel_rfl
theorem Aqy:((Rows.diffRoundRow.plainKeys == Tryz.prog.plainKeys))=true:=by kernel_rfl
theorem Arc:(Rows.diffRoundRow.shortTexts.isNone)=true:=by kernel_rfl
theorem Ao1:(Tryz.prog.stopsHeard)=true:=by kernel_rfl
theorem AqK:(Tryz.prog.mayEnter)=true:=by kernel_rfl
theorem Aph:((Rows.diffRoundRow.lifted == Tryz.prog.liftsFinal))=true:=by kernel_rfl
theorem ApY:((Tryz.prog.make == some Rows.diffRoundRow.make))=true:=by kernel_rfl
theorem Ap8:((Rows.diffRoundRow.kinds == (if Rows.diffRoundRow.domain.isEmpty then [] else Tryz.f4.params.toList.map fun t=>match Tryz.prog.underlying t with | some (.int k)=>some k | _=>none)))=true:=by kernel_rfl
theorem Apg:((Rows.diffRoundRow.pinned == Rows.diffRoundRow.pinnedBy))=true:=by kernel_rfl
theorem AqB:((Rows.diffRoundRow.veiled == (Tryz.f4.params.toList++Rows.diffRoundSpec.plain.varTypes Tryz.prog++Tryz.f4.resultTypes.toList).any (Tryz.prog.veiledRec ·)))=true:=by kernel_rfl
theorem Aqj:(Rows.diffRoundRow.veiledFits Tryz.prog Tryz.f4.params.toList (Tryz.f4.params.toList++Rows.diffRoundSpec.plain.varTypes Tryz.prog++Tryz.f4.resultTypes.toList))=true:=by kernel_rfl
set_option maxRecDepth 100000 in
theorem Aka:((Rows.diffRoundRow.wf (OpenSpec.ofChange Rows.diffRoundSpec)) && (laidOutB Tryz.prog) && (mapsRowed Tryz.prog) && (Tryz.f4.params.all (Tryz.prog.readableRec ·)) && (namedTie Tryz.prog Rows.diffRoundRow.named Rows.diffRoundSpec.vars) && ((Rows.diffRoundRow.stops == [])) && ((Tryz.prog.stops == [])) && ((Rows.diffRoundRow.knobs == [])) && ((Tryz.prog.stopKnobs == [])) && ((Rows.diffRoundRow.inPlace == Tryz.prog.inPlace 4)) && ((Rows.diffRoundRow.unfollowed == Tryz.prog.unfollowed 4)) && ((Rows.diffRoundRow.recurses == Tryz.prog.recurses 4)) && ((Rows.diffRoundRow.named == Tryz.prog.varsNamed 4)) && ((Rows.diffRoundRow.maps == (Tryz.f4.params.toList++Rows.diffRoundSpec.plain.varTypes Tryz.prog).any (Tryz.prog.mapsRec ·))) && ((Rows.diffRoundRow.ifaces == (Tryz.f4.params.toList++Rows.diffRoundSpec.plain.varTypes Tryz.prog).any (Tryz.prog.ifacesRec ·))) && ((Rows.diffRoundRow.mapsOut == Tryz.prog.mapsAmong Tryz.f4.resultTypes.toList)) && ((Rows.diffRoundRow.loops == (Tryz.f4.params.toList++Rows.diffRoundSpec.plain.varTypes Tryz.prog).any (Tryz.prog.loopsFrom ·))) && ((Rows.diffRoundRow.wideKeys == (Tryz.f4.params.toList++Rows.diffRoundSpec.plain.varTypes Tryz.prog++Tryz.f4.resultTypes.toList).any (Tryz.prog.wideKeysFrom ·))) && (Rows.diffRoundSpec.vars.all (Tryz.prog.varReadable ·)) && (Tryz.f4.resultTypes.all (fun t=>Tryz.prog.readableRec t && decide (t<Tryz.prog.types.size))) && ((Rows.diffRoundRow.ifacesOut == Tryz.f4.resultTypes.toList.any (Tryz.prog.ifacesRec ·))) && ((Rows.diffRoundRow.loopsOut == Tryz.f4.resultTypes.toList.any (Tryz.prog.loopsFrom ·))) && ((Rows.diffRoundRow.plainKeys == Tryz.prog.plainKeys)) && (Rows.diffRoundRow.shortTexts.isNone) && (Tryz.prog.stopsHeard) && (Tryz.prog.mayEnter) && ((Rows.diffRoundRow.lifted == Tryz.prog.liftsFinal)) && ((Tryz.prog.make == some Rows.diffRoundRow.make)) && ((Rows.diffRoundRow.kinds == (if Rows.diffRoundRow.domain.isEmpty then [] else Tryz.f4.params.toList.map fun t=>match Tryz.prog.underlying t with | some (.int k)=>some k | _=>none))) && ((Rows.diffRoundRow.pinned == Rows.diffRoundRow.pinnedBy)) && ((Rows.diffRoundRow.veiled == (Tryz.f4.params.toList++Rows.diffRoundSpec.plain.varTypes Tryz.prog++Tryz.f4.resultTypes.toList).any (Tryz.prog.veiledRec ·))) && (Rows.diffRoundRow.veiledFits Tryz.prog Tryz.f4.params.toList (Tryz.f4.params.toList++Rows.diffRoundSpec.plain.varTypes Tryz.prog++Tryz.f4.resultTypes.toList)))=true:=(Ef (Ef (Ef (Ef (Ef (Ef (Ef (Ef (Ef (Ef (Ef (Ef (Ef (Ef (Ef (Ef (Ef (Ef (Ef (Ef (Ef (Ef (Ef (Ef (Ef (Ef (Ef (Ef (Ef (Ef (Ef AsU AsX) A3a) ArZ) A3d) A3p) AsW) ArP) ArT) Asj) AqP) Apj) Apu) Aq0) Apt) Apr) Aq5) ApJ) Ao4) Ap0) ApN) AoZ) Aqy) Arc) Ao1) AqK) Aph) ApY) Ap8) Apg) AqB) Aqj)
set_option maxRecDepth 100000 in
theorem AcK:joinedFacts Tryz.prog 4 Tryz.f4 Rows.diffRoundSpec Rows.diffRoundRow=true:=Aka
set_option maxRecDepth 100000 in
theorem lifted (os:Os) (started:os.Started) (H:Type) (enc:TypeId×Value→H) :
  ReturnsInHanded {} Tryz.checked os 4 .any (fun w args=>(Rows.diffRoundSpec.pre enc Tryz.prog Tryz.f4 [] false w args∧laidMetH Tryz.prog Rows.diffRoundRow.laid w)∧sizedMet enc Tryz.prog Tryz.f4 (OpenSpec.ofChange Rows.diffRoundSpec) false w args) (Rows.diffRoundSpec.post enc Tryz.prog Tryz.f4 false true false false):=by
 refine Ut (C:=Tryz.checked) (X:=fun w _=>laidMetH Tryz.prog Rows.diffRoundRow.laid w) (fun _ _ _ hh h=>h.of_heap hh) own started (by kernel_rfl) Tryz.func4
  (ChangeSpec.witness_at (enc:=enc) (C:=Tryz.checked) (os:=os) (X:=fun w _=>laidMetH Tryz.prog Rows.diffRoundRow.laid w) false (Abw os) #[.slice none 0 0,.slice none 0 0,.int .i64 0] 8 rfl (by kernel_rfl) (by kernel_rfl) (by kernel_rfl) (by kernel_rfl) (by kernel_rfl) (Aac os _)) ?_
 intro W base args ds gs before hval0 hW hcnd hsz0 hL hsh _
 obtain ⟨t0,a0,t1,a1,m,hG⟩:=AaQ hL hsh
 letI:A8:=giM t0 a0 t1 a1 m
 haveI:BR:=RQ t0 a0 t1 a1 m
 haveI:CY:=Jz t0 a0 t1 a1 m
 haveI:CX:=Js t0 a0 t1 a1 m
 haveI:Aj:=Gw t0 a0 t1 a1 m
 haveI:AL:=P7 t0 a0 t1 a1 m
 haveI:A7:=TQ t0 a0 t1 a1 m
 haveI:AU:=QR t0 a0 t1 a1 m
 haveI:Ih:=⟨m,by kernel_rfl⟩
 have hsz:(DataW.weightsEach Tryz.prog (Tryz.f4.params.toList++Rows.diffRoundSpec.plain.varTypes Tryz.prog) (ds++gs)).all (· ≤ reachBytes)=true:=hsz0
 have hval:∀ (j:Nat) t v,Tryz.f4.params[j]?=some t→args[j]?=some v→Value.okWide Tryz.prog W .any base t v:=hval0
 have hW':=hW
 obtain ⟨p,q,hA0,hV,rfl,hfz,hnd⟩:=hW
 have hA:DataW.TrodAll enc Tryz.prog W 0 (fun _=>true) true Tryz.f4.params.toList args.toList ds p:=hA0
 obtain ⟨rfl,rfl⟩:=trodVars_none hV
 have hsz2:(DataW.weightsEach Tryz.prog Tryz.f4.params.toList ds).all (· ≤ reachBytes)=true:=by
  have e:Tryz.f4.params.toList++Rows.diffRoundSpec.plain.varTypes Tryz.prog=Tryz.f4.params.toList:=by simp [ChangeSpec.plain,Rows.diffRoundSpec]; rfl
  rw [e,List.append_nil] at hsz; exact hsz
 have hA':=hA
 have hps:(Tryz.f4.params.toList.all fun t=>Tryz.prog.readableRec t && decide (t<Tryz.prog.types.size))=true:=by kernel_rfl
 have hv2:∀ (j:Nat) t v,Tryz.f4.params.toList[j]?=some t→args.toList[j]?=some v→∃ base,Value.okWide Tryz.prog W .any base t v:=fun j t v h1 h2=>⟨base,hval j t v (by rw [←Array.getElem?_toList]; exact h1) (by rw [←Array.getElem?_toList]; exact h2)⟩
 rw [Tryz.params4] at hA hsz2 hv2
 obtain ⟨dsE,hdsE⟩:∃ x,x=ds:=⟨_,rfl⟩
 refine (Ap5 (f:=4) (Jy (VQ Tryz.underlying22 Tryz.underlying5 (by kernel_rfl) (by kernel_rfl)) (VN Tryz.underlying22) (fun _=>rfl) (Jy (VQ Tryz.underlying22 Tryz.underlying5 (by kernel_rfl) (by kernel_rfl)) (VN Tryz.underlying22) (fun _=>rfl) (Jy (Aev Tryz.underlying3) (Ad2 Tryz.underlying3) (fun _=>rfl) ZA))) (fun a h=>Aff a.1 a.2.1 a.2.2.1 h.1 h.2.1 h.2.2.1.1 h.2.2.1.2) hA hv2 hsz2 (hG)).mono fun e W' ⟨he,bel⟩ => ?_
 subst he
 have hB:=SN Amn.1 bel hps hA'
 have hAo:=hA
 obtain ⟨v0,vs0,d0,ds0,p0,q0,ha0,hd0,hp0,h0,r0⟩:=trodAll_cons hAo
 obtain ⟨v1,vs1,d1,ds1,p1,q1,ha1,hd1,hp1,h1,r1⟩:=trodAll_cons r0
 obtain ⟨v2,vs2,d2,ds2,p2,q2,ha2,hd2,hp2,h2,r2⟩:=trodAll_cons r1
 obtain ⟨hz1,hz2,hz3⟩:=trodAll_nil r2
 have hd:ds=[d0,d1,d2]:=by rw [hd0,hd1,hd2,hz2]
 subst hd
 exact ⟨_,rfl,_,_,_,[],_,[],hW',trodAll_mk1 (shut_bool Tryz.underlying4 _),hB,rfl,bel.frame _,fun h=>by cases h⟩
theorem over:Rows.diffRoundRow.holds Tryz.pinned (OpenSpec.ofChange Rows.diffRoundSpec) :=
 OpenClaim.holds_of_wide 4 Tryz.f4 rfl rfl rfl rfl rfl rfl rfl ⟨rfl,rfl,rfl,rfl,rfl⟩ rfl rfl rfl rfl rfl (by kernel_rfl) Tryz.func4 AcK
  (of_decide_eq_true (by kernel_rfl)) (by unfold Func.isWrapper; first | (rw [if_pos (by decide +kernel)]; kernel_rfl) | (rw [if_neg (by decide +kernel)]; exact ⟨rfl,rfl⟩))
  (fun os started H enc _=>lifted os started H enc)
theorem stands:(Tryz.f4.params.toList.all fun t => !Tryz.prog.wantsStandIn t)=true:=by kernel_rfl
theorem proved:Rows.DiffRoundCardSaid :=
 Claim7.holds_tied_plain_at .later [] [.data,.data,.data,.data,.handle,.sentinel,.sentinel,.widerDeep,.pinned] true (true, "62a5829ec729229048cd84d384c4567494042dda76116d78a6e039e1f1c832a8") true
  over (fun _ h=>by cases h) (by kernel_rfl) (fun _ h=>by cases h) diffRound_row_tie rfl ⟨rfl,rfl⟩ (by kernel_rfl) rfl
  (fun f fn hf hfn=>by
   obtain rfl:f=4:=(Option.some.inj ((show Tryz.prog.funcNamed "gitlike/gitlikelaw10.DiffRound" = some 4 by kernel_rfl).symm.trans hf)).symm
   obtain rfl:fn=Tryz.f4:=(Option.some.inj (Tryz.func4.symm.trans hfn)).symm
   exact ⟨by kernel_rfl,fun j t ht=>by
    rw [←Array.getElem?_toList] at ht
    have:=List.all_eq_true.1 stands t (List.mem_of_getElem? ht)
    exact (show Tryz.prog.wantsStandIn t=false by simpa using this)⟩)
  (by kernel_rfl)
#print axioms proved
end Go.Proofs.YtkoilgokgaigbaaGreatDoor.diffRound
