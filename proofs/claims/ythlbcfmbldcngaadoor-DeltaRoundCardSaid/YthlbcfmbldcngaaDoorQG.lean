/- DeltaRoundCard: the law, proved out of contracts of the functions that it reaches (texts merged; names shortened by a program). No condition is laid on it. -/
import Derived.Test.YthlbcfmbldcngaaDoorQF
import Derived.SevenTiedAt
import Derived.Test.YthlbcfmbldcngaaDoorCards
import Derived.Test.YthlbcfmbldcngaaDoorTie
import Derived.Test.YthlbcfmbldcngaaDoorRows
import Derived.Test.YthlbcfmbldcngaaDoorProg
import Derived.WalkKit
import Derived.ProofKit
import Derived.OpenShut
import Derived.ShutString
import Derived.ChangeOld
import Derived.Below
import Derived.SizedLaws
import Derived.ChangeVars
import Derived.LaidLaws
import Derived.LaidHandle
import Derived.Stop.Joined
import Derived.Stop.LaidErr
import Derived.ClosedOfChecked
import Derived.Test.YthlbcfmbldcngaaDoorQE
set_option linter.unusedVariables false
namespace Go.Proofs.YthlbcfmbldcngaaDoor.deltaRound
open Go.ChangeShapes Go.WideShapes Go.ChangeAt Go.RowKit
theorem own:ownKnob Tryd.prog.godebug=none:=by kernel_rfl
instance gi:Bt6:=⟨[(0,BuN)],by kernel_rfl⟩
instance:BwJ:=⟨by kernel_rfl⟩
theorem et:Tryd.prog.globalNamed "errors.errorType" = some 0:=by kernel_rfl
theorem rt:(Tryd.prog.cutTypes.find? (·.1 == "internal/reflectlite.rtype")).map (·.2)=some 90:=by kernel_rfl
theorem BVV:((List.range Tryd.prog.types.size).filter fun t=>Tryd.prog.rowNamed t [101,114,114,111,114])=[27]:=by kernel_rfl
theorem BHl {W:World} (h:handlesMet Tryd.prog [("errors.errorType", Rows.laid_errors_errorType)] W):∃ t fr,W.heap[0]?=some (.cells BuN.cells.toArray t fr):=by
 obtain ⟨name,u,ty,e1,e2,e3,e4,e5⟩:=h _ (List.mem_singleton.2 rfl)
 have en:name=[101,114,114,111,114]:=(Option.some.inj e1).symm
 subst en
 obtain rfl:=Option.some.inj (rt.symm.trans e2)
 have hm:ty∈(List.range Tryd.prog.types.size).filter fun t=>Tryd.prog.rowNamed t [101,114,114,111,114]:=List.mem_filter.2 ⟨List.mem_range.2 e3,e4⟩
 rw [BVV] at hm
 obtain rfl:=List.mem_singleton.1 hm
 have hh:typeHandle Tryd.prog 27 = .pointer (some ⟨2,27,none⟩):=by kernel_rfl
 rw [hh] at e5
 exact BTL et e5
theorem BJn {W:World} (h:laidMetH Tryd.prog Rows.deltaRoundRow.laid W):Bz2 (fun b=>b<W.heap.size) W:=by
 intro g x hx
 have hm:=BLO hx
 have h':laidMet Tryd.prog [] W∧handlesMet Tryd.prog [("errors.errorType", Rows.laid_errors_errorType)] W:=h
 have hm':(g,x)∈([(0,BuN)]:List (Nat×GV)):=hm
 simp only [List.mem_cons,List.mem_nil_iff,or_false,Prod.mk.injEq] at hm'
 have key:∃ t fr,W.heap[g]?=some (.cells x.cells.toArray t fr):=by
  rcases hm' with ⟨rfl,rfl⟩
  ·exact BHl h'.2
 obtain ⟨t,fr,hk⟩:=key
 exact ⟨(Array.getElem?_eq_some_iff.1 hk).1,t,fr,hk⟩
noncomputable def BJe (os:Os):World :=
 let w0:=World.holding Tryd.prog os ⟨#[],#[.slice none 0 0,.slice none 0 0],[]⟩
 let w1:={ w0 with heap:=w0.heap.modify 0 fun
   | .cells _ t frozen => .cells BuN.cells.toArray t frozen
   | o=>o }
 w1
theorem BIs (os:Os) (args:Array Value):laidMetH Tryd.prog Rows.deltaRoundRow.laid ((BJe os).forCall (fun _ _=>0) ⟨#[],args,[]⟩).memory :=
 laidMetH_of_parts (laidMet_nil _ _) (by kernel_rfl)
theorem BSC:laidOutB Tryd.prog=true∧mapsRowed Tryd.prog=true :=
 have H:=ClosedOfChecked.allSpec_of Tryd.checked.wellFormed (by kernel_rfl:Tryd.checked.prog.types=Tryd.checked.src.types)
 ⟨ClosedOfChecked.laidOutB_of H (by kernel_rfl),ClosedOfChecked.mapsRowed_of H⟩
theorem Bwn {a b:Bool} (h:a=true) (k:b=true):(a && b)=true:=by rw [h,k]; rfl
theorem BYs:(Rows.deltaRoundRow.wf (OpenSpec.ofChange Rows.deltaRoundSpec))=true:=by kernel_rfl
theorem BZq:(laidOutB Tryd.prog)=true:=BSC.1
theorem BYu:(mapsRowed Tryd.prog)=true:=BSC.2
theorem BX2:(Tryd.f3.params.all (Tryd.prog.readableRec ·))=true:=by kernel_rfl
theorem BZu:(namedTie Tryd.prog Rows.deltaRoundRow.named Rows.deltaRoundSpec.vars)=true:=by kernel_rfl
theorem BZj:((Rows.deltaRoundRow.stops == []))=true:=by kernel_rfl
theorem BXF:((Tryd.prog.stops == []))=true:=by kernel_rfl
theorem BYW:((Rows.deltaRoundRow.knobs == []))=true:=by kernel_rfl
theorem BYP:((Tryd.prog.stopKnobs == []))=true:=by kernel_rfl
theorem BYA:((Rows.deltaRoundRow.inPlace == Tryd.prog.inPlace 3))=true:=by kernel_rfl
theorem BW0:((Rows.deltaRoundRow.unfollowed == Tryd.prog.unfollowed 3))=true:=by kernel_rfl
theorem BVn:((Rows.deltaRoundRow.recurses == Tryd.prog.recurses 3))=true:=by kernel_rfl
theorem BWV:((Rows.deltaRoundRow.named == Tryd.prog.varsNamed 3))=true:=by kernel_rfl
theorem BV5:((Rows.deltaRoundRow.maps == (Tryd.f3.params.toList++Rows.deltaRoundSpec.plain.varTypes Tryd.prog).any (Tryd.prog.mapsRec ·)))=true:=by kernel_rfl
theorem BW9:((Rows.deltaRoundRow.ifaces == (Tryd.f3.params.toList++Rows.deltaRoundSpec.plain.varTypes Tryd.prog).any (Tryd.prog.ifacesRec ·)))=true:=by kernel_rfl
theorem BWH:((Rows.deltaRoundRow.mapsOut == Tryd.prog.mapsAmong Tryd.f3.resultTypes.toList))=true:=by kernel_rfl
theorem BU1:((Rows.deltaRoundRow.loops == (Tryd.f3.params.toList++Rows.deltaRoundSpec.plain.varTypes Tryd.prog).any (Tryd.prog.loopsFrom ·)))=true:=by kernel_rfl
theorem BWv:((Rows.deltaRoundRow.wideKeys == (Tryd.f3.params.toList++Rows.deltaRoundSpec.plain.varTypes Tryd.prog++Tryd.f3.resultTypes.toList).any (Tryd.prog.wideKeysFrom ·)))=true:=by kernel_rfl
theorem BVg:(Rows.deltaRoundSpec.vars.all (Tryd.prog.varReadable ·))=true:=by kernel_rfl
theorem BU0:(Tryd.f3.resultTypes.all (fun t=>Tryd.prog.readableRec t && decide (t<Tryd.prog.types.size)))=true:=by kernel_rfl
theorem BUG:((Rows.deltaRoundRow.ifacesOut == Tryd.f3.resultTypes.toList.any (Tryd.prog.ifacesRec ·)))=true:=by kernel_rfl
theorem BWo:((Rows.deltaRoundRow.loopsOut == Tryd.f3.resultTypes.toList.any (Tryd.prog.loopsFrom ·)))=true:=by kernel_rfl
theorem BU6:((Rows.deltaRoundRow.plainKeys == Tryd.prog.plainKeys))=true:=by kernel_rfl
theorem BWh:(Rows.deltaRoundRow.shortTexts.isNone)=true:=by kernel_rfl
theorem BUH:(Tryd.prog.stopsHeard)=true:=by kernel_rfl
theorem BWp:(Tryd.prog.mayEnter)=true:=by kernel_rfl
theorem BWE:((Rows.deltaRoundRow.lifted == Tryd.prog.liftsFinal))=true:=by kernel_rfl
theorem BWb:((Tryd.prog.make == some Rows.deltaRoundRow.make))=true:=by kernel_rfl
theorem BVA:((Rows.deltaRoundRow.kinds == (if Rows.deltaRoundRow.domain.isEmpty then [] else Tryd.f3.params.toList.map fun t=>match Tryd.prog.underlying t with | some (.int k)=>some k | _=>none)))=true:=by kernel_rfl
theorem BVc:((Rows.deltaRoundRow.pinned == Rows.deltaRoundRow.pinnedBy))=true:=by kernel_rfl
theorem BV7:((Rows.deltaRoundRow.veiled == (Tryd.f3.params.toList++Rows.deltaRoundSpec.plain.varTypes Tryd.prog++Tryd.f3.resultTypes.toList).any (Tryd.prog.veiledRec ·)))=true:=by kernel_rfl
theorem BU2:(Rows.deltaRoundRow.veiledFits Tryd.prog Tryd.f3.params.toList (Tryd.f3.params.toList++Rows.deltaRoundSpec.plain.varTypes Tryd.prog++Tryd.f3.resultTypes.toList))=true:=by kernel_rfl
set_option maxRecDepth 100000 in
theorem BRz:((Rows.deltaRoundRow.wf (OpenSpec.ofChange Rows.deltaRoundSpec)) && (laidOutB Tryd.prog) && (mapsRowed Tryd.prog) && (Tryd.f3.params.all (Tryd.prog.readableRec ·)) && (namedTie Tryd.prog Rows.deltaRoundRow.named Rows.deltaRoundSpec.vars) && ((Rows.deltaRoundRow.stops == [])) && ((Tryd.prog.stops == [])) && ((Rows.deltaRoundRow.knobs == [])) && ((Tryd.prog.stopKnobs == [])) && ((Rows.deltaRoundRow.inPlace == Tryd.prog.inPlace 3)) && ((Rows.deltaRoundRow.unfollowed == Tryd.prog.unfollowed 3)) && ((Rows.deltaRoundRow.recurses == Tryd.prog.recurses 3)) && ((Rows.deltaRoundRow.named == Tryd.prog.varsNamed 3)) && ((Rows.deltaRoundRow.maps == (Tryd.f3.params.toList++Rows.deltaRoundSpec.plain.varTypes Tryd.prog).any (Tryd.prog.mapsRec ·))) && ((Rows.deltaRoundRow.ifaces == (Tryd.f3.params.toList++Rows.deltaRoundSpec.plain.varTypes Tryd.prog).any (Tryd.prog.ifacesRec ·))) && ((Rows.deltaRoundRow.mapsOut == Tryd.prog.mapsAmong Tryd.f3.resultTypes.toList)) && ((Rows.deltaRoundRow.loops == (Tryd.f3.params.toList++Rows.deltaRoundSpec.plain.varTypes Tryd.prog).any (Tryd.prog.loopsFrom ·))) && ((Rows.deltaRoundRow.wideKeys == (Tryd.f3.params.toList++Rows.deltaRoundSpec.plain.varTypes Tryd.prog++Tryd.f3.resultTypes.toList).any (Tryd.prog.wideKeysFrom ·))) && (Rows.deltaRoundSpec.vars.all (Tryd.prog.varReadable ·)) && (Tryd.f3.resultTypes.all (fun t=>Tryd.prog.readableRec t && decide (t<Tryd.prog.types.size))) && ((Rows.deltaRoundRow.ifacesOut == Tryd.f3.resultTypes.toList.any (Tryd.prog.ifacesRec ·))) && ((Rows.deltaRoundRow.loopsOut == Tryd.f3.resultTypes.toList.any (Tryd.prog.loopsFrom ·))) && ((Rows.deltaRoundRow.plainKeys == Tryd.prog.plainKeys)) && (Rows.deltaRoundRow.shortTexts.isNone) && (Tryd.prog.stopsHeard) && (Tryd.prog.mayEnter) && ((Rows.deltaRoundRow.lifted == Tryd.prog.liftsFinal)) && ((Tryd.prog.make == some Rows.deltaRoundRow.make)) && ((Rows.deltaRoundRow.kinds == (if Rows.deltaRoundRow.domain.isEmpty then [] else Tryd.f3.params.toList.map fun t=>match Tryd.prog.underlying t with | some (.int k)=>some k | _=>none))) && ((Rows.deltaRoundRow.pinned == Rows.deltaRoundRow.pinnedBy)) && ((Rows.deltaRoundRow.veiled == (Tryd.f3.params.toList++Rows.deltaRoundSpec.plain.varTypes Tryd.prog++Tryd.f3.resultTypes.toList).any (Tryd.prog.veiledRec ·))) && (Rows.deltaRoundRow.veiledFits Tryd.prog Tryd.f3.params.toList (Tryd.f3.params.toList++Rows.deltaRoundSpec.plain.varTypes Tryd.prog++Tryd.f3.resultTypes.toList)))=true:=(Bwn (Bwn (Bwn (Bwn (Bwn (Bwn (Bwn (Bwn (Bwn (Bwn (Bwn (Bwn (Bwn (Bwn (Bwn (Bwn (Bwn (Bwn (Bwn (Bwn (Bwn (Bwn (Bwn (Bwn (Bwn (Bwn (Bwn (Bwn (Bwn (Bwn (Bwn BYs BZq) BYu) BX2) BZu) BZj) BXF) BYW) BYP) BYA) BW0) BVn) BWV) BV5) BW9) BWH) BU1) BWv) BVg) BU0) BUG) BWo) BU6) BWh) BUH) BWp) BWE) BWb) BVA) BVc) BV7) BU2)
set_option maxRecDepth 100000 in
theorem BKa:joinedFacts Tryd.prog 3 Tryd.f3 Rows.deltaRoundSpec Rows.deltaRoundRow=true:=BRz
set_option maxRecDepth 100000 in
theorem lifted (os:Os) (started:os.Started) (H:Type) (enc:TypeId×Value→H) :
  ReturnsInHanded {} Tryd.checked os 3 .any (fun w args=>(Rows.deltaRoundSpec.pre enc Tryd.prog Tryd.f3 [] false w args∧laidMetH Tryd.prog Rows.deltaRoundRow.laid w)∧sizedMet enc Tryd.prog Tryd.f3 (OpenSpec.ofChange Rows.deltaRoundSpec) false w args) (Rows.deltaRoundSpec.post enc Tryd.prog Tryd.f3 false true false false):=by
 refine returnsInHanded_of_change_and (C:=Tryd.checked) (X:=fun w _=>laidMetH Tryd.prog Rows.deltaRoundRow.laid w) (fun _ _ _ hh h=>h.of_heap hh) own started (by kernel_rfl) Tryd.func3
  (ChangeSpec.witness_at (enc:=enc) (C:=Tryd.checked) (os:=os) (X:=fun w _=>laidMetH Tryd.prog Rows.deltaRoundRow.laid w) false (BJe os) #[.slice none 0 0,.slice none 0 0] 8 rfl (by kernel_rfl) (by kernel_rfl) (by kernel_rfl) (by kernel_rfl) (by kernel_rfl) (BIs os _)) ?_
 intro W base args ds gs before hval0 hW hcnd hsz0 hL _
 have hsz:(DataW.weightsEach Tryd.prog (Tryd.f3.params.toList++Rows.deltaRoundSpec.plain.varTypes Tryd.prog) (ds++gs)).all (· ≤ reachBytes)=true:=hsz0
 have hval:∀ (j:Nat) t v,Tryd.f3.params[j]?=some t→args[j]?=some v→Value.okWide Tryd.prog W .any base t v:=hval0
 have hW':=hW
 obtain ⟨p,q,hA0,hV,rfl,hfz,hnd⟩:=hW
 have hA:DataW.TrodAll enc Tryd.prog W 0 (fun _=>true) true Tryd.f3.params.toList args.toList ds p:=hA0
 obtain ⟨rfl,rfl⟩:=trodVars_none hV
 have hsz2:(DataW.weightsEach Tryd.prog Tryd.f3.params.toList ds).all (· ≤ reachBytes)=true:=by
  have e:Tryd.f3.params.toList++Rows.deltaRoundSpec.plain.varTypes Tryd.prog=Tryd.f3.params.toList:=by simp [ChangeSpec.plain,Rows.deltaRoundSpec]; rfl
  rw [e,List.append_nil] at hsz; exact hsz
 have hA':=hA
 have hps:(Tryd.f3.params.toList.all fun t=>Tryd.prog.readableRec t && decide (t<Tryd.prog.types.size))=true:=by kernel_rfl
 have hv2:∀ (j:Nat) t v,Tryd.f3.params.toList[j]?=some t→args.toList[j]?=some v→∃ base,Value.okWide Tryd.prog W .any base t v:=fun j t v h1 h2=>⟨base,hval j t v (by rw [←Array.getElem?_toList]; exact h1) (by rw [←Array.getElem?_toList]; exact h2)⟩
 rw [Tryd.params3] at hA hsz2 hv2
 obtain ⟨dsE,hdsE⟩:∃ x,x=ds:=⟨_,rfl⟩
 refine (BVd (f:=3) (BDi (BFG Tryd.underlying22 Tryd.underlying5 (by kernel_rfl) (by kernel_rfl)) (BFH Tryd.underlying22) (fun _=>rfl) (BDi (BFG Tryd.underlying22 Tryd.underlying5 (by kernel_rfl) (by kernel_rfl)) (BFH Tryd.underlying22) (fun _=>rfl) BIz)) (fun a h=>BPa a.1 a.2.1 h.1 h.2.1) hA hv2 hsz2 (BJn hL)).mono fun e W' ⟨he,bel⟩ => ?_
 subst he
 have hB:=BEE BSC.1 bel hps hA'
 have hAo:=hA
 obtain ⟨v0,vs0,d0,ds0,p0,q0,ha0,hd0,hp0,h0,r0⟩:=trodAll_cons hAo
 obtain ⟨v1,vs1,d1,ds1,p1,q1,ha1,hd1,hp1,h1,r1⟩:=trodAll_cons r0
 obtain ⟨hz1,hz2,hz3⟩:=trodAll_nil r1
 have hd:ds=[d0,d1]:=by rw [hd0,hd1,hz2]
 subst hd
 exact ⟨_,rfl,_,_,_,[],_,[],hW',trodAll_mk1 (shut_bool Tryd.underlying4 _),hB,rfl,bel.frame _,fun h=>by cases h⟩
theorem over:Rows.deltaRoundRow.holds Tryd.pinned (OpenSpec.ofChange Rows.deltaRoundSpec) :=
 OpenClaim.holds_of_wide 3 Tryd.f3 rfl rfl rfl rfl rfl rfl rfl ⟨rfl,rfl,rfl,rfl,rfl⟩ rfl rfl rfl rfl rfl (by kernel_rfl) Tryd.func3 BKa
  (of_decide_eq_true (by kernel_rfl)) (by unfold Func.isWrapper; first | (rw [if_pos (by decide +kernel)]; kernel_rfl) | (rw [if_neg (by decide +kernel)]; exact ⟨rfl,rfl⟩))
  (fun os started H enc _=>lifted os started H enc)
theorem stands:(Tryd.f3.params.toList.all fun t => !Tryd.prog.wantsStandIn t)=true:=by kernel_rfl
theorem proved:Rows.DeltaRoundCardSaid :=
 Claim7.holds_tied_plain_at .later [] [.handle] true (true, "eecdc4a8cf6d1dfc2f55d86962e4beb66123a5d0896791f5664aff0c45d75a48") true
  over (fun _ h=>by cases h) (by kernel_rfl) (fun _ h=>by cases h) deltaRound_row_tie rfl ⟨rfl,rfl⟩ (by kernel_rfl) rfl
  (fun f fn hf hfn=>by
   obtain rfl:f=3:=(Option.some.inj ((show Tryd.prog.funcNamed "gitlike/gitlikelaw4.DeltaRound" = some 3 by kernel_rfl).symm.trans hf)).symm
   obtain rfl:fn=Tryd.f3:=(Option.some.inj (Tryd.func3.symm.trans hfn)).symm
   exact ⟨by kernel_rfl,fun j t ht=>by
    rw [←Array.getElem?_toList] at ht
    have:=List.all_eq_true.1 stands t (List.mem_of_getElem? ht)
    exact (show Tryd.prog.wantsStandIn t=false by simpa using this)⟩)
  (by kernel_rfl)
#print axioms proved
end Go.Proofs.YthlbcfmbldcngaaDoor.deltaRound
