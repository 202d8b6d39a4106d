/- DeltaMovedCard: the law, proved out of contracts of the functions that it reaches (texts merged; names shortened by a program). No condition is laid on it. -/
import Derived.Test.YthlbcfmbldcngaaDoorQF
import Derived.Test.YthlbcfmbldcngaaDoorQE
import Derived.SevenTiedAt
import Derived.Test.YthlbcfmbldcngaaDoorCards
import Derived.Test.YthlbcfmbldcngaaDoorTie
import Derived.Test.YthlbcfmbldcngaaDoorRows
import Derived.Test.YthlbcfmbldcngaaDoorProg
import Derived.WalkKit
import Derived.ProofKit
import Derived.OpenShut
import Derived.ShutString
import Derived.ChangeOld
import Derived.Below
import Derived.SizedLaws
import Derived.ChangeVars
import Derived.LaidLaws
import Derived.LaidHandle
import Derived.Stop.Joined
import Derived.Stop.LaidErr
import Derived.ClosedOfChecked
set_option linter.unusedSectionVars false
set_option linter.unusedSimpArgs false
set_option linter.unusedVariables false
namespace Go.Proofs.YthlbcfmbldcngaaDoor
section
open Go.RowKit
variable [A7] [DZ]
structure PcU where
 frm:Int
 len:Int
 more:List UInt8
abbrev pcU (p:PcU):TV := .agg [i64 p.frm,i64 p.len,slB p.more]
theorem Apf (a:Int) {d:Nat} (hd:0<d) (hd2:d<1000000):∃ r:Nat,r<d∧∀ t,Ei t .rem (.int .u64 (IntKind.u64.wrap a)) (.int .u64 (IntKind.u64.wrap (d:Int)))=some (.int .u64 (r:Int)):=by
 have hw:IntKind.u64.wrap (d:Int)=d:=by rw [IntKind.wrap_u64]; omega
 have ha:0≤IntKind.u64.wrap a:=by rw [IntKind.wrap_u64]; omega
 have hlt:=Int.emod_lt_of_pos (IntKind.u64.wrap a) (show (0:Int)<(d:Int) by omega)
 have h0:=Int.emod_nonneg (IntKind.u64.wrap a) (show (d:Int)≠0 by omega)
 refine ⟨(IntKind.u64.wrap a % (d:Int)).toNat,by omega,fun t => ?_⟩
 rw [hw,AlE ha (by omega),Int.toNat_of_nonneg h0]
set_option maxRecDepth 100000 in
theorem Ad3 (base first:List UInt8) (ps:List PcU) (hb0:base.length≤140737488351232) (hf0:first.length≤140737488351232) (hp0:ps.length≤140737488351232) (hm0:∀ p∈ps,p.more.length≤140737488351232) :
  NF Tryd.prog 4 [slB base,slB first,.sl 3 (ps.map pcU)] (fun x=>x=tb true):=by
 refine Au.toPureV (Su (by simp) ?_)
 by_cases h1:20000<base.length
 ·simp -dsimp (disch:=first | assumption | omega | (simp only [Af];try omega)) only [↓Ak,Ae,Ai,Aj,eq_self,Nat.reduceEqDiff,↓reduceIte,Nat.reduceAdd,reduceCtorEq,↓En,h1]
  done
 by_cases h2:base.length<32
 ·simp -dsimp (disch:=first | assumption | omega | (simp only [Af];try omega)) only [↓Ak,Ae,Ai,Aj,eq_self,Nat.reduceEqDiff,↓reduceIte,Nat.reduceAdd,reduceCtorEq,↓En,h1,h2]
  done
 by_cases h3:20000<first.length
 ·simp -dsimp (disch:=first | assumption | omega | (simp only [Af];try omega)) only [↓Ak,Ae,Ai,Aj,eq_self,Nat.reduceEqDiff,↓reduceIte,Nat.reduceAdd,reduceCtorEq,↓En,h1,h2,h3]
  done
 by_cases h4:1000<ps.length
 ·simp -dsimp (disch:=first | assumption | omega | (simp only [Af];try omega)) only [↓Ak,Ae,Ai,Aj,eq_self,Nat.reduceEqDiff,↓reduceIte,Nat.reduceAdd,reduceCtorEq,↓En,h1,h2,h3,h4]
  done
 simp -dsimp (disch:=first | assumption | omega | (simp only [Af];try omega)) only [↓Ak,Ae,Ai,Aj,eq_self,Nat.reduceEqDiff,↓reduceIte,Nat.reduceAdd,reduceCtorEq,↓JP,↓FO,↓FY,↓Gu,h1,h2,h3,h4]
 have fin:∀ (v m l cp:Nat) (target:List UInt8) (lab w:Nat→Nat) (x10:TV) (rest:Env),m≤1000→target.length≤40000→l≤target.length→Xj base target lab w→Lj w 0 target.length≤15*m+2*l →
   vwp Tryd.prog Eb (Vs He fun x H'=>A8 (FK H' (ZX H' 2) x) fun x=>x=tb true) ((0,slB base)::(2,.sl 3 (ps.map pcU))::(7,.os 1 0 v [] 0 target.length cp)::(8,i64 (l:Int))::(9,i64 (m:Int))::(10,x10)::rest) [Vb v target]:=by
  intro v m l cp target lab w x10 rest hm htl hll hL hS
  have htk:(target.map by8).take target.length=target.map by8:=List.take_of_length_le (by simp)
  simp -dsimp (disch:=first | assumption | omega | (simp only [Af];try omega)) only [↓Ak,Ae,Ai,Aj,eq_self,Nat.reduceEqDiff,↓reduceIte,reduceCtorEq,↓Gf]
  refine (Aar (base:=base) (target:=target) (by omega) (by omega) hL).lends (args':=[slB base,slB target]) (by simp -dsimp (disch:=first | assumption | omega | (simp only [Af];try omega)) only [Ai,Aj,eq_self,↓reduceIte,htk]) fun r hr => ?_
  obtain ⟨d,rfl,hG,hdl⟩:=hr
  obtain ⟨hA,hS2⟩:=hG.apply (by omega) (by omega)
  simp -dsimp (disch:=first | assumption | omega | (simp only [Af];try omega)) only [↓Ak,Ae,Ai,Aj,eq_self,Nat.reduceEqDiff,↓reduceIte,reduceCtorEq,↓F7]
  refine (AfQ base d (by omega) (by omega)).lends (args':=[slB base,slB d]) (by simp -dsimp (disch:=first | assumption | omega | (simp only [Af];try omega)) only [Ai,eq_self]) fun r hr => ?_
  rw [Io,hA] at hr
  subst hr
  simp -dsimp (disch:=first | assumption | omega | (simp only [Af];try omega)) only [↓Ak,Ae,Ai,Aj,eq_self,Nat.reduceEqDiff,↓reduceIte,reduceCtorEq,↓G6]
  refine (same target target (by omega) (by omega)).lends (args':=[slB target,slB target]) (by simp -dsimp (disch:=first | assumption | omega | (simp only [Af];try omega)) only [Ai,Aj,eq_self,↓reduceIte,htk]) fun r hr => ?_
  subst hr
  refine ⟨rfl,?_⟩
  have hle:d.length≤20+16*m+2*l:=by omega
  simp -dsimp (disch:=first | assumption | omega | (simp only [Af];try omega)) only [↓Ak,Ae,Ai,Aj,eq_self,Nat.reduceEqDiff,↓reduceIte,↓Gv]
  refine AnT.calls rfl fun r hr => ?_
  subst hr
  simp -dsimp (disch:=first | assumption | omega | (simp only [Af];try omega)) only [↓Ak,Ae,Ai,Aj,eq_self,Nat.reduceEqDiff,↓reduceIte,hle,↓JI]
  done
 simp -dsimp (disch:=first | assumption | omega | (simp only [Af];try omega)) only [↓Ak,Ae,Ai,Aj,eq_self,Nat.reduceEqDiff,↓reduceIte,reduceCtorEq,↓FT,↓Gg,↓Gm,↓Gw]
 refine KH (fun q e H=>∃ (j v m l cp:Nat) (target:List UInt8) (lab w:Nat→Nat),q=ps.length - j∧j≤ps.length∧m≤j∧target.length≤40000∧l≤target.length∧Xj base target lab w∧Lj w 0 target.length≤15*m+2*l∧H=[Vb v target] ∧
  e=[(0,slB base),(2,.sl 3 (ps.map pcU)),(7,.os 1 0 v [] 0 target.length cp),(8,i64 (l:Int)),(9,i64 (m:Int)),(10,i64 (j:Int))]) ps.length ?_ ?_
 ·have hL:=(Xj.nil (base:=base)).more first
  have hS:=Aac (target:=[]) (x:=first) (w:=fun _=>0)
  rw [List.nil_append] at hL hS
  refine ⟨0,1,0,first.length,first.length,first,_,_,rfl,Nat.zero_le _,Nat.le_refl _,by omega,Nat.le_refl _,hL,?_,rfl,?_⟩
  ·rw [hS]; simp [Lj]
  ·simp [forget,get]
 rintro q e H ⟨j,v,m,l,cp,target,lab,w,rfl,hj,hmj,htl,hll,hL,hS,rfl,rfl⟩
 by_cases hjl:j<ps.length
 ·obtain ⟨p,hg⟩:∃ p,ps[j]?=some p:=⟨_,List.getElem?_eq_getElem hjl⟩
  have hpm:=hm0 p (List.mem_of_getElem? hg)
  obtain ⟨r1,hr1,e1⟩:=Apf p.len (d:=base.length - 31) (by omega) (by omega)
  obtain ⟨r2,hr2,e2⟩:=Apf p.frm (d:=base.length - (32+r1)+1) (by omega) (by omega)
  simp -dsimp (disch:=first | assumption | omega | (simp only [Af];try omega)) only [↓Ak,Ae,Ai,Aj,eq_self,Nat.reduceEqDiff,↓reduceIte,Nat.reduceAdd,reduceCtorEq,↓DU,hjl,↓Gx,hg,e1,↓GZ,e2]
  by_cases hc1:20000<p.more.length
  ·simp -dsimp (disch:=first | assumption | omega | (simp only [Af];try omega)) only [↓Ak,Ae,Ai,Aj,eq_self,Nat.reduceEqDiff,↓reduceIte,Nat.reduceAdd,reduceCtorEq,↓CP,hg,hc1]
   exact fin v m l cp target lab w _ _ (by omega) htl hll hL hS
  by_cases hc2:40000<target.length+(32+r1)+p.more.length
  ·simp -dsimp (disch:=first | assumption | omega | (simp only [Af];try omega)) only [↓Ak,Ae,Ai,Aj,eq_self,Nat.reduceEqDiff,↓reduceIte,Nat.reduceAdd,reduceCtorEq,↓CP,hg,hc1,hc2]
   exact fin v m l cp target lab w _ _ (by omega) htl hll hL hS
  simp -dsimp (disch:=first | assumption | omega | (simp only [Af];try omega)) only [↓Ak,Ae,Ai,Aj,eq_self,Nat.reduceEqDiff,↓reduceIte,Nat.reduceAdd,reduceCtorEq,↓CP,hg,hc1,hc2]
  have hLp:=hL.piece (a:=r2) (n:=32+r1) (by omega) (by omega)
  have hSp:=Acv (base:=base) (target:=target) (w:=w) (a:=r2) (n:=32+r1) (by omega) (by omega)
  have hpl:((base.drop r2).take (32+r1)).length=32+r1:=by simp; omega
  generalize hpc:(base.drop r2).take (32+r1)=pc at *
  simp -dsimp (disch:=first | assumption | omega | (simp only [Af];try omega)) only [↓Ak,Ae,Ai,Aj,eq_self,Nat.reduceEqDiff,↓reduceIte,reduceCtorEq,↓G5,hpc,hpl]
  have ht2:(target++pc).length=target.length+(32+r1):=by rw [List.length_append,hpl]
  rw [←List.map_append,←ht2]
  have hLm:=hLp.more p.more
  have hSm:=Aac (target:=target++pc) (x:=p.more) (w:=fun i=>if i<target.length then w i else pwU (32+r1) (i - target.length))
  rw [hSp] at hSm
  clear hSp hLp
  generalize (fun i=>if i<(target++pc).length then (fun i=>if i<target.length then w i else pwU (32+r1) (i - target.length)) i else 2)=w2 at *
  generalize (fun i=>if i<(target++pc).length then (fun i=>if i<target.length then lab i else 32+r1 - (i - target.length)) i else 0)=lab2 at *
  have ht3:(target++pc++p.more).length=(target++pc).length+p.more.length:=List.length_append
  generalize htt:target++pc=t2 at *
  simp -dsimp (disch:=first | assumption | omega | (simp only [Af];try omega)) only [↓Ak,Ae,Ai,Aj,eq_self,Nat.reduceEqDiff,↓reduceIte,Nat.reduceAdd,reduceCtorEq,↓Gz,hg]
  rw [←List.map_append,←ht3]
  exact Ba (ps.length - (j+1)) (by omega) (by simp) ⟨j+1,v+1+1,m+1,l+p.more.length,(t2++p.more).length,t2++p.more,lab2,w2,rfl,by omega,by omega,by omega,by omega,hLm,by rw [hSm]; omega,rfl,rfl⟩
 ·simp -dsimp (disch:=first | assumption | omega | (simp only [Af];try omega)) only [↓Ak,Ae,Ai,Aj,eq_self,Nat.reduceEqDiff,↓reduceIte,reduceCtorEq,↓DU,hjl]
  exact fin v m l cp target lab w _ _ (by omega) htl hll hL hS
end
section
open Go.RowKit
variable [A7]
set_option maxRecDepth 100000 in
theorem AaE:LV Tryd.prog 39 (fun p:PcU=>pcU p) (fun p=>p.more.length≤140737488351232):=by
 refine Nh (WY Tryd.underlying39 (by kernel_rfl) (OQ (off:=0) (n:=1) rfl (by kernel_rfl) (VF Tryd.underlying3) (OQ (off:=1) (n:=1) rfl (by kernel_rfl)
  (VF Tryd.underlying3) (OQ (off:=2) (n:=1) rfl (by kernel_rfl) (Py Tryd.underlying22 Tryd.underlying5 (by kernel_rfl) (by kernel_rfl)) YO)))) fun x h => ?_
 obtain ⟨a,b,c,u⟩:=x
 exact ⟨⟨a,b,c⟩,rfl,h.2.2.1⟩
set_option maxRecDepth 100000 in
theorem AaR:LV Tryd.prog 36 (fun l:List PcU => .sl 3 (l.map pcU)) (fun l=>(∀ p∈l,p.more.length≤140737488351232)∧l.length≤140737488351232) :=
 Nh (Uc (k:=3) (B:=40) Tryd.underlying36 (by kernel_rfl) (by kernel_rfl) AaE (fun a _=>rfl) (by decide)) fun l h=>⟨l,rfl,h.1,by have:=h.2; omega⟩
end
end Go.Proofs.YthlbcfmbldcngaaDoor
namespace Go.Proofs.YthlbcfmbldcngaaDoor.deltaMoved
open Go.ChangeShapes Go.WideShapes Go.ChangeAt Go.RowKit
theorem own:ownKnob Tryd.prog.godebug=none:=by kernel_rfl
instance gi:A7:=⟨[(0,CO)],by kernel_rfl⟩
instance:DZ:=⟨by kernel_rfl⟩
theorem et:Tryd.prog.globalNamed "errors.errorType" = some 0:=by kernel_rfl
theorem rt:(Tryd.prog.cutTypes.find? (·.1 == "internal/reflectlite.rtype")).map (·.2)=some 90:=by kernel_rfl
theorem AkO:((List.range Tryd.prog.types.size).filter fun t=>Tryd.prog.rowNamed t [101,114,114,111,114])=[27]:=by kernel_rfl
theorem Vh {W:World} (h:handlesMet Tryd.prog [("errors.errorType", Rows.laid_errors_errorType)] W):∃ t fr,W.heap[0]?=some (.cells CO.cells.toArray t fr):=by
 obtain ⟨name,u,ty,e1,e2,e3,e4,e5⟩:=h _ (List.mem_singleton.2 rfl)
 have en:name=[101,114,114,111,114]:=(Option.some.inj e1).symm
 subst en
 obtain rfl:=Option.some.inj (rt.symm.trans e2)
 have hm:ty∈(List.range Tryd.prog.types.size).filter fun t=>Tryd.prog.rowNamed t [101,114,114,111,114]:=List.mem_filter.2 ⟨List.mem_range.2 e3,e4⟩
 rw [AkO] at hm
 obtain rfl:=List.mem_singleton.1 hm
 have hh:typeHandle Tryd.prog 27 = .pointer (some ⟨2,27,none⟩):=by kernel_rfl
 rw [hh] at e5
 exact Ajf et e5
theorem Yo {W:World} (h:laidMetH Tryd.prog Rows.deltaMovedRow.laid W):MB (fun b=>b<W.heap.size) W:=by
 intro g x hx
 have hm:=AaZ hx
 have h':laidMet Tryd.prog [] W∧handlesMet Tryd.prog [("errors.errorType", Rows.laid_errors_errorType)] W:=h
 have hm':(g,x)∈([(0,CO)]:List (Nat×GV)):=hm
 simp only [List.mem_cons,List.mem_nil_iff,or_false,Prod.mk.injEq] at hm'
 have key:∃ t fr,W.heap[g]?=some (.cells x.cells.toArray t fr):=by
  rcases hm' with ⟨rfl,rfl⟩
  ·exact Vh h'.2
 obtain ⟨t,fr,hk⟩:=key
 exact ⟨(Array.getElem?_eq_some_iff.1 hk).1,t,fr,hk⟩
noncomputable def Xq (os:Os):World :=
 let w0:=World.holding Tryd.prog os ⟨#[],#[.slice none 0 0,.slice none 0 0,.slice none 0 0],[]⟩
 let w1:={ w0 with heap:=w0.heap.modify 0 fun
   | .cells _ t frozen => .cells CO.cells.toArray t frozen
   | o=>o }
 w1
theorem WV (os:Os) (args:Array Value):laidMetH Tryd.prog Rows.deltaMovedRow.laid ((Xq os).forCall (fun _ _=>0) ⟨#[],args,[]⟩).memory :=
 laidMetH_of_parts (laidMet_nil _ _) (by kernel_rfl)
theorem AiF:laidOutB Tryd.prog=true∧mapsRowed Tryd.prog=true :=
 have H:=ClosedOfChecked.allSpec_of Tryd.checked.wellFormed (by kernel_rfl:Tryd.checked.prog.types=Tryd.checked.src.types)
 ⟨ClosedOfChecked.laidOutB_of H (by kernel_rfl),ClosedOfChecked.mapsRowed_of H⟩
theorem E8 {a b:Bool} (h:a=true) (k:b=true):(a && b)=true:=by rw [h,k]; rfl
theorem Am2:(Rows.deltaMovedRow.wf (OpenSpec.ofChange Rows.deltaMovedSpec))=true:=by kernel_rfl
theorem Anu:(laidOutB Tryd.prog)=true:=AiF.1
theorem AnI:(mapsRowed Tryd.prog)=true:=AiF.2
theorem Anp:(Tryd.f4.params.all (Tryd.prog.readableRec ·))=true:=by kernel_rfl
theorem AmO:(namedTie Tryd.prog Rows.deltaMovedRow.named Rows.deltaMovedSpec.vars)=true:=by kernel_rfl
theorem Aoq:((Rows.deltaMovedRow.stops == []))=true:=by kernel_rfl
theorem AnC:((Tryd.prog.stops == []))=true:=by kernel_rfl
theorem AoC:((Rows.deltaMovedRow.knobs == []))=true:=by kernel_rfl
theorem AmX:((Tryd.prog.stopKnobs == []))=true:=by kernel_rfl
theorem Ank:((Rows.deltaMovedRow.inPlace == Tryd.prog.inPlace 4))=true:=by kernel_rfl
theorem Ald:((Rows.deltaMovedRow.unfollowed == Tryd.prog.unfollowed 4))=true:=by kernel_rfl
theorem Al2:((Rows.deltaMovedRow.recurses == Tryd.prog.recurses 4))=true:=by kernel_rfl
theorem Aly:((Rows.deltaMovedRow.named == Tryd.prog.varsNamed 4))=true:=by kernel_rfl
theorem Aj5:((Rows.deltaMovedRow.maps == (Tryd.f4.params.toList++Rows.deltaMovedSpec.plain.varTypes Tryd.prog).any (Tryd.prog.mapsRec ·)))=true:=by kernel_rfl
theorem AkX:((Rows.deltaMovedRow.ifaces == (Tryd.f4.params.toList++Rows.deltaMovedSpec.plain.varTypes Tryd.prog).any (Tryd.prog.ifacesRec ·)))=true:=by kernel_rfl
theorem Ak0:((Rows.deltaMovedRow.mapsOut == Tryd.prog.mapsAmong Tryd.f4.resultTypes.toList))=true:=by kernel_rfl
theorem Alv:((Rows.deltaMovedRow.loops == (Tryd.f4.params.toList++Rows.deltaMovedSpec.plain.varTypes Tryd.prog).any (Tryd.prog.loopsFrom ·)))=true:=by kernel_rfl
theorem Als:((Rows.deltaMovedRow.wideKeys == (Tryd.f4.params.toList++Rows.deltaMovedSpec.plain.varTypes Tryd.prog++Tryd.f4.resultTypes.toList).any (Tryd.prog.wideKeysFrom ·)))=true:=by kernel_rfl
theorem Akd:(Rows.deltaMovedSpec.vars.all (Tryd.prog.varReadable ·))=true:=by kernel_rfl
theorem AlW:(Tryd.f4.resultTypes.all (fun t=>Tryd.prog.readableRec t && decide (t<Tryd.prog.types.size)))=true:=by kernel_rfl
theorem AkB:((Rows.deltaMovedRow.ifacesOut == Tryd.f4.resultTypes.toList.any (Tryd.prog.ifacesRec ·)))=true:=by kernel_rfl
theorem Aks:((Rows.deltaMovedRow.loopsOut == Tryd.f4.resultTypes.toList.any (Tryd.prog.loopsFrom ·)))=true:=by kernel_rfl
theorem AkC:((Rows.deltaMovedRow.plainKeys == Tryd.prog.plainKeys))=true:=by kernel_rfl
theorem AkN:(Rows.deltaMovedRow.shortTexts.isNone)=true:=by kernel_rfl
theorem AlV:(Tryd.prog.stopsHeard)=true:=by kernel_rfl
theorem AkK:(Tryd.prog.mayEnter)=true:=by kernel_rfl
theorem AlP:((Rows.deltaMovedRow.lifted == Tryd.prog.liftsFinal))=true:=by kernel_rfl
theorem AjY:((Tryd.prog.make == some Rows.deltaMovedRow.make))=true:=by kernel_rfl
theorem AlQ:((Rows.deltaMovedRow.kinds == (if Rows.deltaMovedRow.domain.isEmpty then [] else Tryd.f4.params.toList.map fun t=>match Tryd.prog.underlying t with | some (.int k)=>some k | _=>none)))=true:=by kernel_rfl
theorem Akh:((Rows.deltaMovedRow.pinned == Rows.deltaMovedRow.pinnedBy))=true:=by kernel_rfl
theorem AlN:((Rows.deltaMovedRow.veiled == (Tryd.f4.params.toList++Rows.deltaMovedSpec.plain.varTypes Tryd.prog++Tryd.f4.resultTypes.toList).any (Tryd.prog.veiledRec ·)))=true:=by kernel_rfl
theorem Akv:(Rows.deltaMovedRow.veiledFits Tryd.prog Tryd.f4.params.toList (Tryd.f4.params.toList++Rows.deltaMovedSpec.plain.varTypes Tryd.prog++Tryd.f4.resultTypes.toList))=true:=by kernel_rfl
set_option maxRecDepth 100000 in
theorem Ag2:((Rows.deltaMovedRow.wf (OpenSpec.ofChange Rows.deltaMovedSpec)) && (laidOutB Tryd.prog) && (mapsRowed Tryd.prog) && (Tryd.f4.params.all (Tryd.prog.readableRec ·)) && (namedTie Tryd.prog Rows.deltaMovedRow.named Rows.deltaMovedSpec.vars) && ((Rows.deltaMovedRow.stops == [])) && ((Tryd.prog.stops == [])) && ((Rows.deltaMovedRow.knobs == [])) && ((Tryd.prog.stopKnobs == [])) && ((Rows.deltaMovedRow.inPlace == Tryd.prog.inPlace 4)) && ((Rows.deltaMovedRow.unfollowed == Tryd.prog.unfollowed 4)) && ((Rows.deltaMovedRow.recurses == Tryd.prog.recurses 4)) && ((Rows.deltaMovedRow.named == Tryd.prog.varsNamed 4)) && ((Rows.deltaMovedRow.maps == (Tryd.f4.params.toList++Rows.deltaMovedSpec.plain.varTypes Tryd.prog).any (Tryd.prog.mapsRec ·))) && ((Rows.deltaMovedRow.ifaces == (Tryd.f4.params.toList++Rows.deltaMovedSpec.plain.varTypes Tryd.prog).any (Tryd.prog.ifacesRec ·))) && ((Rows.deltaMovedRow.mapsOut == Tryd.prog.mapsAmong Tryd.f4.resultTypes.toList)) && ((Rows.deltaMovedRow.loops == (Tryd.f4.params.toList++Rows.deltaMovedSpec.plain.varTypes Tryd.prog).any (Tryd.prog.loopsFrom ·))) && ((Rows.deltaMovedRow.wideKeys == (Tryd.f4.params.toList++Rows.deltaMovedSpec.plain.varTypes Tryd.prog++Tryd.f4.resultTypes.toList).any (Tryd.prog.wideKeysFrom ·))) && (Rows.deltaMovedSpec.vars.all (Tryd.prog.varReadable ·)) && (Tryd.f4.resultTypes.all (fun t=>Tryd.prog.readableRec t && decide (t<Tryd.prog.types.size))) && ((Rows.deltaMovedRow.ifacesOut == Tryd.f4.resultTypes.toList.any (Tryd.prog.ifacesRec ·))) && ((Rows.deltaMovedRow.loopsOut == Tryd.f4.resultTypes.toList.any (Tryd.prog.loopsFrom ·))) && ((Rows.deltaMovedRow.plainKeys == Tryd.prog.plainKeys)) && (Rows.deltaMovedRow.shortTexts.isNone) && (Tryd.prog.stopsHeard) && (Tryd.prog.mayEnter) && ((Rows.deltaMovedRow.lifted == Tryd.prog.liftsFinal)) && ((Tryd.prog.make == some Rows.deltaMovedRow.make)) && ((Rows.deltaMovedRow.kinds == (if Rows.deltaMovedRow.domain.isEmpty then [] else Tryd.f4.params.toList.map fun t=>match Tryd.prog.underlying t with | some (.int k)=>some k | _=>none))) && ((Rows.deltaMovedRow.pinned == Rows.deltaMovedRow.pinnedBy)) && ((Rows.deltaMovedRow.veiled == (Tryd.f4.params.toList++Rows.deltaMovedSpec.plain.varTypes Tryd.prog++Tryd.f4.resultTypes.toList).any (Tryd.prog.veiledRec ·))) && (Rows.deltaMovedRow.veiledFits Tryd.prog Tryd.f4.params.toList (Tryd.f4.params.toList++Rows.deltaMovedSpec.plain.varTypes Tryd.prog++Tryd.f4.resultTypes.toList)))=true:=(E8 (E8 (E8 (E8 (E8 (E8 (E8 (E8 (E8 (E8 (E8 (E8 (E8 (E8 (E8 (E8 (E8 (E8 (E8 (E8 (E8 (E8 (E8 (E8 (E8 (E8 (E8 (E8 (E8 (E8 (E8 Am2 Anu) AnI) Anp) AmO) Aoq) AnC) AoC) AmX) Ank) Ald) Al2) Aly) Aj5) AkX) Ak0) Alv) Als) Akd) AlW) AkB) Aks) AkC) AkN) AlV) AkK) AlP) AjY) AlQ) Akh) AlN) Akv)
set_option maxRecDepth 100000 in
theorem YW:joinedFacts Tryd.prog 4 Tryd.f4 Rows.deltaMovedSpec Rows.deltaMovedRow=true:=Ag2
set_option maxRecDepth 100000 in
theorem lifted (os:Os) (started:os.Started) (H:Type) (enc:TypeId×Value→H) :
  ReturnsInHanded {} Tryd.checked os 4 .any (fun w args=>(Rows.deltaMovedSpec.pre enc Tryd.prog Tryd.f4 [] false w args∧laidMetH Tryd.prog Rows.deltaMovedRow.laid w)∧sizedMet enc Tryd.prog Tryd.f4 (OpenSpec.ofChange Rows.deltaMovedSpec) false w args) (Rows.deltaMovedSpec.post enc Tryd.prog Tryd.f4 false true false false):=by
 refine returnsInHanded_of_change_and (C:=Tryd.checked) (X:=fun w _=>laidMetH Tryd.prog Rows.deltaMovedRow.laid w) (fun _ _ _ hh h=>h.of_heap hh) own started (by kernel_rfl) Tryd.func4
  (ChangeSpec.witness_at (enc:=enc) (C:=Tryd.checked) (os:=os) (X:=fun w _=>laidMetH Tryd.prog Rows.deltaMovedRow.laid w) false (Xq os) #[.slice none 0 0,.slice none 0 0,.slice none 0 0] 8 rfl (by kernel_rfl) (by kernel_rfl) (by kernel_rfl) (by kernel_rfl) (by kernel_rfl) (WV os _)) ?_
 intro W base args ds gs before hval0 hW hcnd hsz0 hL _
 have hsz:(DataW.weightsEach Tryd.prog (Tryd.f4.params.toList++Rows.deltaMovedSpec.plain.varTypes Tryd.prog) (ds++gs)).all (· ≤ reachBytes)=true:=hsz0
 have hval:∀ (j:Nat) t v,Tryd.f4.params[j]?=some t→args[j]?=some v→Value.okWide Tryd.prog W .any base t v:=hval0
 have hW':=hW
 obtain ⟨p,q,hA0,hV,rfl,hfz,hnd⟩:=hW
 have hA:DataW.TrodAll enc Tryd.prog W 0 (fun _=>true) true Tryd.f4.params.toList args.toList ds p:=hA0
 obtain ⟨rfl,rfl⟩:=trodVars_none hV
 have hsz2:(DataW.weightsEach Tryd.prog Tryd.f4.params.toList ds).all (· ≤ reachBytes)=true:=by
  have e:Tryd.f4.params.toList++Rows.deltaMovedSpec.plain.varTypes Tryd.prog=Tryd.f4.params.toList:=by simp [ChangeSpec.plain,Rows.deltaMovedSpec]; rfl
  rw [e,List.append_nil] at hsz; exact hsz
 have hA':=hA
 have hps:(Tryd.f4.params.toList.all fun t=>Tryd.prog.readableRec t && decide (t<Tryd.prog.types.size))=true:=by kernel_rfl
 have hv2:∀ (j:Nat) t v,Tryd.f4.params.toList[j]?=some t→args.toList[j]?=some v→∃ base,Value.okWide Tryd.prog W .any base t v:=fun j t v h1 h2=>⟨base,hval j t v (by rw [←Array.getElem?_toList]; exact h1) (by rw [←Array.getElem?_toList]; exact h2)⟩
 rw [Tryd.params4] at hA hsz2 hv2
 obtain ⟨dsE,hdsE⟩:∃ x,x=ds:=⟨_,rfl⟩
 refine (Akf (f:=4) (KQ (Py Tryd.underlying22 Tryd.underlying5 (by kernel_rfl) (by kernel_rfl)) (O4 Tryd.underlying22) (fun _=>rfl) (KQ (Py Tryd.underlying22 Tryd.underlying5 (by kernel_rfl) (by kernel_rfl)) (O4 Tryd.underlying22) (fun _=>rfl) (KQ AaR (O4 Tryd.underlying36) (fun _=>rfl) Wu))) (fun a h=>Ad3 a.1 a.2.1 a.2.2.1 h.1 h.2.1 h.2.2.1.2 h.2.2.1.1) hA hv2 hsz2 (Yo hL)).mono fun e W' ⟨he,bel⟩ => ?_
 subst he
 have hB:=RN AiF.1 bel hps hA'
 have hAo:=hA
 obtain ⟨v0,vs0,d0,ds0,p0,q0,ha0,hd0,hp0,h0,r0⟩:=trodAll_cons hAo
 obtain ⟨v1,vs1,d1,ds1,p1,q1,ha1,hd1,hp1,h1,r1⟩:=trodAll_cons r0
 obtain ⟨v2,vs2,d2,ds2,p2,q2,ha2,hd2,hp2,h2,r2⟩:=trodAll_cons r1
 obtain ⟨hz1,hz2,hz3⟩:=trodAll_nil r2
 have hd:ds=[d0,d1,d2]:=by rw [hd0,hd1,hd2,hz2]
 subst hd
 exact ⟨_,rfl,_,_,_,[],_,[],hW',trodAll_mk1 (shut_bool Tryd.underlying4 _),hB,rfl,bel.frame _,fun h=>by cases h⟩
theorem over:Rows.deltaMovedRow.holds Tryd.pinned (OpenSpec.ofChange Rows.deltaMovedSpec) :=
 OpenClaim.holds_of_wide 4 Tryd.f4 rfl rfl rfl rfl rfl rfl rfl ⟨rfl,rfl,rfl,rfl,rfl⟩ rfl rfl rfl rfl rfl (by kernel_rfl) Tryd.func4 YW
  (of_decide_eq_true (by kernel_rfl)) (by unfold Func.isWrapper; first | (rw [if_pos (by decide +kernel)]; kernel_rfl) | (rw [if_neg (by decide +kernel)]; exact ⟨rfl,rfl⟩))
  (fun os started H enc _=>lifted os started H enc)
theorem stands:(Tryd.f4.params.toList.all fun t => !Tryd.prog.wantsStandIn t)=true:=by kernel_rfl
theorem proved:Rows.DeltaMovedCardSaid :=
 Claim7.holds_tied_plain_at .later [] [.handle] true (true, "eecdc4a8cf6d1dfc2f55d86962e4beb66123a5d0896791f5664aff0c45d75a48") true
  over (fun _ h=>by cases h) (by kernel_rfl) (fun _ h=>by cases h) deltaMoved_row_tie rfl ⟨rfl,rfl⟩ (by kernel_rfl) rfl
  (fun f fn hf hfn=>by
   obtain rfl:f=4:=(Option.some.inj ((show Tryd.prog.funcNamed "gitlike/gitlikelaw4.DeltaMoved" = some 4 by kernel_rfl).symm.trans hf)).symm
   obtain rfl:fn=Tryd.f4:=(Option.some.inj (Tryd.func4.symm.trans hfn)).symm
   exact ⟨by kernel_rfl,fun j t ht=>by
    rw [←Array.getElem?_toList] at ht
    have:=List.all_eq_true.1 stands t (List.mem_of_getElem? ht)
    exact (show Tryd.prog.wantsStandIn t=false by simpa using this)⟩)
  (by kernel_rfl)
#print axioms proved
end Go.Proofs.YthlbcfmbldcngaaDoor.deltaMoved
